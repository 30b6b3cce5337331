/- Ahead of both packages, walked by hand (no condition). -/
import Derived.Test.YtfkakbipedafiaaDoorGreX0
namespace Go.Eng.Gra
open Go Go.Eng
set_option linter.unusedSectionVars false
set_option linter.unusedVariables false
set_option linter.unusedSimpArgs false
set_option maxRecDepth 20000

/-- an edge more -/
def addR (n : Nat) (i : Int) (rows : List (List Int)) (k : Int) : List (List Int) := if 0 ≤ k ∧ k < n then rows.set k.toNat (rows.getD k.toNat [] ++ [i]) else rows
def aheadS (bs : List T_Block) : Nat → List (List Int)
  | 0 => List.replicate bs.length []
  | i + 1 => match bs[i]? with
    | some b => (nextV b).foldl (addR bs.length i) (aheadS bs i)
    | none => aheadS bs i
def aheadV (bs : List T_Block) : List (List Int) := aheadS bs bs.length
def F13 (g : T_Graph) : Option (List (List Int)) := if g.fBlocks.length ≤ 1048576 then some (aheadV g.fBlocks) else none
def F20 (g : T_Graph) : Option (List (List Int)) := if g.fBlocks.length ≤ 1048576 then some (aheadV g.fBlocks) else none

theorem addR_len (n : Nat) (i : Int) (rows : List (List Int)) (k : Int) : (addR n i rows k).length = rows.length := by unfold addR; split <;> simp
theorem fold_len (n : Nat) (i : Int) : ∀ (l : List Int) (rows : List (List Int)), (l.foldl (addR n i) rows).length = rows.length
  | [], rows => rfl
  | k :: l, rows => by rw [List.foldl_cons, fold_len n i l, addR_len]
theorem aheadS_len (bs : List T_Block) : ∀ i, (aheadS bs i).length = bs.length
  | 0 => by simp [aheadS]
  | i + 1 => by
    have := aheadS_len bs i
    simp only [aheadS]; split
    · rw [fold_len]; exact this
    · exact this
theorem addR_row {n : Nat} {i : Int} {rows : List (List Int)} {k : Int} {c : Nat} (h : ∀ r ∈ rows, r.length ≤ c) : ∀ r ∈ addR n i rows k, r.length ≤ c + 1 := by
  intro r hr
  unfold addR at hr
  split at hr
  · rcases List.mem_or_eq_of_mem_set hr with h1 | h1
    · have := h r h1; omega
    · subst h1
      by_cases hl : k.toNat < rows.length
      · have e : rows.getD k.toNat [] = rows[k.toNat] := by simp [List.getD, hl]
        have := h _ (List.getElem_mem hl)
        rw [e, List.length_append, List.length_singleton]; omega
      · have e : rows.getD k.toNat [] = [] := by simp [List.getD, hl]
        rw [e]; simp
  · have := h r hr; omega
theorem fold_row {n : Nat} {i : Int} : ∀ (l : List Int) {rows : List (List Int)} {c : Nat} (h : ∀ r ∈ rows, r.length ≤ c), ∀ r ∈ l.foldl (addR n i) rows, r.length ≤ c + l.length
  | [], rows, c, h => h
  | k :: l, rows, c, h => by
    rw [List.foldl_cons]
    intro r hr
    have := fold_row l (addR_row (n := n) (i := i) (k := k) h) r hr
    rw [List.length_cons]; omega
theorem next_le (b : T_Block) : (nextV b).length ≤ 2 := by unfold nextV; split <;> (try split) <;> (try split) <;> (try split) <;> simp
theorem aheadS_row (bs : List T_Block) : ∀ i, ∀ r ∈ aheadS bs i, r.length ≤ 2 * i
  | 0 => by intro r hr; simp [aheadS] at hr; rw [hr.2]; simp
  | i + 1 => by
    have ih := aheadS_row bs i
    simp only [aheadS]; split
    · rename_i b _
      intro r hr
      have := fold_row (nextV b) ih r hr
      have := next_le b
      omega
    · intro r hr; have := ih r hr; omega
theorem aheadS_step {bs : List T_Block} {i : Nat} {b : T_Block} (h : bs[i]? = some b) : aheadS bs (i + 1) = (nextV b).foldl (addR bs.length i) (aheadS bs i) := by simp only [aheadS, h]
theorem addR_in {n : Nat} {i k : Int} {rows : List (List Int)} (h : 0 ≤ k ∧ k < n) (hk : k.toNat < rows.length) : addR n i rows k = rows.set k.toNat (rows[k.toNat] ++ [i]) := by
  unfold addR; rw [if_pos h]; simp [List.getD, hk]
theorem addR_out {n : Nat} {i k : Int} {rows : List (List Int)} (h : ¬ (0 ≤ k ∧ k < n)) : addR n i rows k = rows := by unfold addR; rw [if_neg h]

theorem in34 (k n : Int) : F34 k n = some (decide (0 ≤ k ∧ k < n)) := by
  unfold F34
  by_cases h : 0 ≤ k <;> simp [h]
theorem in38 (k n : Int) : F38 k n = some (decide (0 ≤ k ∧ k < n)) := by
  unfold F38
  by_cases h : 0 ≤ k <;> simp [h]

theorem mks_nils (H : Heap) (n : Nat) (hn : n ≤ 1048576) : mksV H 1 false [.nils] 24 (.int .i64 (n : Int)) (.int .i64 (n : Int)) = some (.sl H.length 0 0 n 1 false, H ++ [(0, List.replicate n .nils)]) := by
  have h1 : (n : Int) * ((24 : Nat) : Int) ≤ 140737488355328 := by omega
  have h2 : (n : Int) < 9223372036854775808 := by omega
  have e : (List.replicate n [V.nils]).flatten = List.replicate n V.nils := by
    induction n with
    | zero => rfl
    | succ n ih => rw [List.replicate_succ, List.flatten_cons, ih (by omega) (by omega) (by omega)]; rfl
  simp only [mksV, Int.toNat_natCast, e]
  rw [if_pos ⟨by omega, by omega, h1, h2⟩]

theorem Grid.grow {base : Nat} {H : Heap} {b : Nat} {rows : List (List Int)} {vs : List V} {loc : Nat → Option (Nat × Nat)} (G : Grid base H b rows vs loc) (x : Nat × List V) : Grid base (H ++ [x]) b rows vs loc := by
  have up : ∀ {c : Nat} {y : Nat × List V}, H[c]? = some y → (H ++ [x])[c]? = some y := by
    intro c y h
    rw [List.getElem?_append_left (List.getElem?_eq_some_iff.mp h).1]; exact h
  refine ⟨up G.out, G.len, fun k r hk => ?_, G.low, G.inj⟩
  obtain ⟨v, h1, h2⟩ := G.row k r hk
  refine ⟨v, h1, ?_⟩
  unfold RowV at h2 ⊢
  split at h2
  · exact h2
  · exact ⟨h2.1, up h2.2⟩
theorem rows_deep {base : Nat} {H : Heap} {b : Nat} {rows : List (List Int)} {vs : List V} {loc : Nat → Option (Nat × Nat)} (G : Grid base H b rows vs loc) : deep false H deepN (.sl b 0 0 rows.length 1 false) = some ((EL (EL (EI .i64))).e rows) := by
  obtain ⟨ws, h1, h2, h3⟩ := G.deep (strict := false) (.inl rfl)
  rw [h1]
  have : ws = rows.map (EL (EI .i64)).e := by
    refine List.ext_getElem? fun k => ?_
    rw [List.getElem?_map]
    cases hr : rows[k]? with
    | none =>
      rw [List.getElem?_eq_none_iff] at hr
      rw [List.getElem?_eq_none (by omega)]; rfl
    | some r =>
      rcases h3 k r hr with h | ⟨rfl, h⟩
      · rw [h]; rfl
      · rw [h]; rfl
  rw [this]; rfl

/-- a block's cells -/
abbrev Zb : List V := [(.fz []), (.int .u8 0), (.int .i64 0), (.int .i64 0), (.int .i64 0), (.int .u8 0)]
theorem st_last (H : Heap) (b : T_Block) : stV (H ++ [(0, Zb)]) (.ptr H.length 0 0) (E_Block.e b) (some 6) = some (H ++ [(0, E_Block.c b)]) := by
  have h1 : (H ++ [(0, Zb)])[H.length]? = some (0, Zb) := by simp
  simp only [stV, rdB_of h1]
  simp [E_Block, fitsSh, V.isCell, V.cells, Zb, EL, EI, List.set_append]
  rfl
theorem ld_last (H : Heap) (b : T_Block) : ldV (H ++ [(0, E_Block.c b)]) (.ptr H.length 0 0) (some 6) = some (E_Block.e b) := by
  have h1 : (H ++ [(0, E_Block.c b)])[H.length]? = some (0, E_Block.c b) := by simp
  simp only [ldV, rdB_of h1]
  rfl

def e13a (bs : List T_Block) (i : Int) : List V := mkE [(3, .sl 0 0 0 bs.length 1 false), (9, .fz (bs.map E_Block.e)), (0, .int .i64 (bs.length : Int)), (0, .int .i64 i)] 28
def e13b (bs : List T_Block) (l : List Int) (i j : Int) : List V := mkE [(3, .sl 0 0 0 bs.length 1 false), (0, .int .i64 i), (8, .fz (bs.map E_Block.e)), (0, .int .i64 (bs.length : Int)), (0, .int .i64 i), (5, .fz (l.map (EI .i64).e)), (0, .int .i64 (l.length : Int)), (0, .int .i64 j)] 20
theorem c13 {x0 : T_Graph} {r : List (List Int)} (h : F13 x0 = some r) : Fn T 13 [(E_Graph.e x0)] [] (fun v hh => deep false hh deepN v = some ((EL (EL (EI .i64))).e r)) := by
  unfold F13 at h
  split at h
  case isFalse => cases h
  rename_i hn
  cases h
  generalize hbs : x0.fBlocks = bs at hn
  refine Fn.enterE t13 (e0 := mkE [(0, E_Graph.e x0)] 43) (by kernel_rfl) ?_
  show Run T (.clr [] i13n36) _ _ (finE none [2] _)
  refine Run.clrE (e' := mkE [(0, E_Graph.e x0)] 43) (by kernel_rfl) ?_
  refine Run.seq (Run.nowK 9 (e' := mkE [(1, .fp (E_Graph.e x0))] 42) (by kernel_rfl) ?_)
  refine Run.seq (Run.rgn (RunO.tk 2 (by kernel_rfl) ?_))
  refine RunO.p1 (by kernel_rfl) rfl (by kernel_rfl) (len_fz E_Block x0.fBlocks) ?_
  rw [hbs]
  refine RunO.w1 (by kernel_rfl) rfl (by kernel_rfl) (mks_nils [] bs.length hn) ?_
  refine RunO.tk 1 (by kernel_rfl) ?_
  refine RunO.done (e' := mkE [(1, .fp (E_Graph.e x0)), (1, .sl 0 0 0 bs.length 1 false)] 40) (by kernel_rfl) ?_
  refine Run.seq (Run.seq (Run.rgn (RunO.tk 2 (by kernel_rfl) ?_)))
  refine RunO.p1 (by kernel_rfl) rfl (by kernel_rfl) (len_fz E_Block x0.fBlocks) ?_
  refine RunO.tk 1 (by kernel_rfl) ?_
  rw [hbs]
  refine RunO.done (e' := e13a bs 0) (by rw [← hbs]; kernel_rfl) ?_
  refine Run.block ?_
  refine Run.loopc (fun n e h => ∃ (i : Nat) (x : Int) (vs : List V) (loc : Nat → Option (Nat × Nat)), x = (i : Int) ∧ i ≤ bs.length ∧ n = bs.length - i ∧ Grid 0 h 0 (aheadS bs i) vs loc ∧ e = e13a bs x) bs.length ⟨0, 0, _, _, rfl, by omega, by omega, Grid.make 0 [] bs.length (by simp), by kernel_rfl⟩ ?_
  rintro n e h ⟨i, x, vs, loc, hx, hi, rfl, G, rfl⟩
  refine Run.seq (Run.rgn (RunO.tk 1 (by kernel_rfl) ?_))
  refine RunO.done (e' := mkE [(3, .sl 0 0 0 bs.length 1 false), (9, .fz (bs.map E_Block.e)), (0, .int .i64 (bs.length : Int)), (0, .int .i64 x), (0, .bool (decide (x < (bs.length : Int))))] 27) (by kernel_rfl) ?_
  refine Run.seq ?_
  by_cases hlt : i < bs.length
  · refine Run.condT (by rw [decide_eq_true (show x < (bs.length : Int) by omega)]; kernel_rfl) ?_
    refine Run.skip ?_
    refine Run.clrE (e' := e13a bs x) (by kernel_rfl) ?_
    have hbi : bs[i]? = some bs[i] := List.getElem?_eq_getElem hlt
    generalize bs[i] = b at hbi
    refine Run.seq (Run.block (Run.seq (Run.rgn (RunO.tk 1 (by kernel_rfl) ?_))))
    refine RunO.p1 (by kernel_rfl) rfl (by kernel_rfl) (idx_fz E_Block (l := bs) (i := x) (a := b) .i64 (by rw [hx]; exact idx_some hbi)) ?_
    refine RunO.tk 1 (by kernel_rfl) ?_
    refine RunO.w1 (u := .ptr h.length 0 0) (H1 := h ++ [(0, Zb)]) (by kernel_rfl) rfl rfl rfl ?_
    refine RunO.tk 1 (by kernel_rfl) ?_
    refine RunO.w1 (u := .sk) (H1 := h ++ [(0, E_Block.c b)]) (by kernel_rfl) rfl rfl (by show (stV _ (.ptr h.length 0 0) (E_Block.e b) (some 6)).map _ = _; rw [st_last]; rfl) ?_
    have G := Grid.grow G (0, E_Block.c b)
    refine RunO.done (e' := mkE [(3, .sl 0 0 0 bs.length 1 false), (0, .int .i64 x), (0, .ptr h.length 0 0), (7, .fz (bs.map E_Block.e)), (0, .int .i64 (bs.length : Int)), (0, .int .i64 x)] 28) (by kernel_rfl) ?_
    refine Run.seq (Run.rgn (RunO.p1 (by kernel_rfl) rfl (by kernel_rfl) (ld_last h b) ?_))
    refine RunO.c2 (by kernel_rfl) (by kernel_rfl) (by kernel_rfl) (c15 (x0 := b) rfl) ?_
    refine RunO.p1 (by kernel_rfl) rfl (by kernel_rfl) (len_fz (EI .i64) (nextV b)) ?_
    refine RunO.tk 1 (by kernel_rfl) ?_
    refine RunO.done (e' := e13b bs (nextV b) x 0) (by kernel_rfl) ?_
    have hst := aheadS_step hbi
    have hnl := next_le b
    generalize nextV b = l at hst hnl
    have hrow : ∀ j, j ≤ l.length → ∀ r ∈ (l.take j).foldl (addR bs.length i) (aheadS bs i), r.length ≤ 1099511627776 := by
      intro j hj r hr
      have := fold_row (l.take j) (aheadS_row bs i) r hr
      rw [List.length_take] at this; omega
    have hlen : ∀ j, ((l.take j).foldl (addR bs.length i) (aheadS bs i)).length = bs.length := fun j => by rw [fold_len, aheadS_len]
    refine Run.block ?_
    refine Run.loopc (fun n e h => ∃ (j : Nat) (y : Int) (vs : List V) (loc : Nat → Option (Nat × Nat)), y = (j : Int) ∧ j ≤ l.length ∧ n = l.length - j ∧ Grid 0 h 0 ((l.take j).foldl (addR bs.length i) (aheadS bs i)) vs loc ∧ e = e13b bs l x y) l.length ⟨0, 0, _, _, rfl, by omega, by omega, G, by kernel_rfl⟩ ?_
    rintro n e h ⟨j, y, vs, loc, hy, hj, rfl, G, rfl⟩
    refine Run.seq (Run.rgn (RunO.tk 1 (by kernel_rfl) ?_))
    refine RunO.done (e' := mkE [(3, .sl 0 0 0 bs.length 1 false), (0, .int .i64 x), (8, .fz (bs.map E_Block.e)), (0, .int .i64 (bs.length : Int)), (0, .int .i64 x), (5, .fz (l.map (EI .i64).e)), (0, .int .i64 (l.length : Int)), (0, .int .i64 y), (0, .bool (decide (y < (l.length : Int))))] 19) (by kernel_rfl) ?_
    refine Run.seq ?_
    by_cases hjl : j < l.length
    · refine Run.condT (by rw [decide_eq_true (show y < (l.length : Int) by omega)]; kernel_rfl) ?_
      refine Run.skip ?_
      refine Run.clrE (e' := e13b bs l x y) (by kernel_rfl) ?_
      have hlj : l[j]? = some l[j] := List.getElem?_eq_getElem hjl
      have hstep : (l.take (j + 1)).foldl (addR bs.length i) (aheadS bs i) = addR bs.length i ((l.take j).foldl (addR bs.length i) (aheadS bs i)) l[j] := by
        rw [List.take_succ_eq_append_getElem hjl, List.foldl_append]; rfl
      generalize l[j] = k at hlj hstep
      have hadd : IntKind.i64.wrap (y + 1) = ((j + 1 : Nat) : Int) := by rw [hy, wrap64_in (by omega) (by omega)]; omega
      refine Run.seq (Run.block (Run.seq (Run.rgn ?_)))
      refine RunO.p1 (by kernel_rfl) rfl (by kernel_rfl) (idx_fz (EI .i64) (l := l) (i := y) (a := k) .i64 (by rw [hy]; exact idx_some hlj)) ?_
      refine RunO.tk 2 (by kernel_rfl) ?_
      refine RunO.done (e' := mkE [(3, .sl 0 0 0 bs.length 1 false), (0, .int .i64 x), (2, .int .i64 k), (5, .fz (bs.map E_Block.e)), (0, .int .i64 (bs.length : Int)), (0, .int .i64 x), (5, .fz (l.map (EI .i64).e)), (0, .int .i64 (l.length : Int)), (0, .int .i64 y)] 20) (by kernel_rfl) ?_
      refine Run.seq (Run.rgn (RunO.tk 3 (by kernel_rfl) ?_))
      refine RunO.c1 (by kernel_rfl) (by kernel_rfl) (c34 (in34 k (bs.length : Int)) _) ?_
      refine RunO.done (e' := mkE [(3, .sl 0 0 0 bs.length 1 false), (0, .int .i64 x), (2, .int .i64 k), (5, .fz (bs.map E_Block.e)), (0, .int .i64 (bs.length : Int)), (0, .int .i64 x), (5, .fz (l.map (EI .i64).e)), (0, .int .i64 (l.length : Int)), (0, .int .i64 y), (6, .bool (decide (0 ≤ k ∧ k < (bs.length : Int))))] 13) (by kernel_rfl) ?_
      by_cases hk : 0 ≤ k ∧ k < (bs.length : Int)
      · refine Run.condT (by rw [decide_eq_true hk]; kernel_rfl) ?_
        have hkl : k.toNat < ((l.take j).foldl (addR bs.length i) (aheadS bs i)).length := by rw [hlen]; omega
        obtain ⟨v, v', H1, H2, loc', g1, g2, g3, g4, g5, g6, g7, g8, _, _⟩ := G.app (List.getElem?_eq_getElem hkl) (hrow j hj _ (List.getElem_mem hkl)) (i : Int)
        have q1 : idxaV (.sl 0 0 0 bs.length 1 false) (.int .i64 k) 1 false = some (.ptr 0 0 k.toNat) := by simp [idxaV, hk.1, hk.2]
        have q2 : ldV h (.ptr 0 0 k.toNat) none = some v := by simp [ldV, rdB_of G.out, takeSh, g1]
        refine Run.rgn (RunO.tk 4 (by kernel_rfl) ?_)
        refine RunO.p1 (by kernel_rfl) rfl (by kernel_rfl) q1 ?_
        refine RunO.p1 (by kernel_rfl) rfl (by kernel_rfl) q2 ?_
        refine RunO.tk 2 (by kernel_rfl) ?_
        refine RunO.w1 (u := v') (H1 := H1) (by kernel_rfl) rfl (v := appV h v (.fz [.int .i64 x]) 1 false 8) (by kernel_rfl) (by rw [hx]; exact g3) ?_
        refine RunO.p1 (by kernel_rfl) rfl (by kernel_rfl) q1 ?_
        refine RunO.w1 (u := .sk) (H1 := H2) (by kernel_rfl) rfl (v := (stV H1 (.ptr 0 0 k.toNat) v' none).map fun H' => (.sk, H')) (by kernel_rfl) (by rw [g7]; rfl) ?_
        refine RunO.nil ?_
        show Run T (.clr _ (.rgn i13r16)) _ _ _
        refine Run.clrE (e' := e13b bs l x y) (by kernel_rfl) ?_
        refine Run.rgn (RunO.tk 2 (by kernel_rfl) (RunO.nil ⟨l.length - (j + 1), by omega, j + 1, _, vs.set k.toNat v', loc', hadd, by omega, rfl, ?_, by kernel_rfl⟩))
        rw [hstep, addR_in hk hkl]; exact g8
      · refine Run.condF (by rw [decide_eq_false hk]; kernel_rfl) ?_
        refine Run.skip ?_
        show Run T (.clr _ (.rgn i13r16)) _ _ _
        refine Run.clrE (e' := e13b bs l x y) (by kernel_rfl) ?_
        refine Run.rgn (RunO.tk 2 (by kernel_rfl) (RunO.nil ⟨l.length - (j + 1), by omega, j + 1, _, vs, loc, hadd, by omega, rfl, ?_, by kernel_rfl⟩))
        rw [hstep, addR_out hk]; exact G
    · refine Run.condF (by rw [decide_eq_false (show ¬ y < (l.length : Int) by omega)]; kernel_rfl) ?_
      refine Run.exit ?_
      show Run T (.clr _ (.rgn i13r25)) _ _ _
      refine Run.clrE (e' := e13a bs x) (by kernel_rfl) ?_
      have hadd : IntKind.i64.wrap (x + 1) = ((i + 1 : Nat) : Int) := by rw [hx, wrap64_in (by omega) (by omega)]; omega
      refine Run.rgn (RunO.tk 2 (by kernel_rfl) (RunO.nil ⟨bs.length - (i + 1), by omega, i + 1, _, vs, loc, hadd, by omega, rfl, ?_, by kernel_rfl⟩))
      rw [List.take_of_length_le (by omega)] at G
      rw [hst]; exact G
  · refine Run.condF (by rw [decide_eq_false (show ¬ x < (bs.length : Int) by omega)]; kernel_rfl) ?_
    refine Run.exit ?_
    show Run T (.clr _ i13n33) _ _ _
    refine Run.clrE (e' := mkE [(3, .sl 0 0 0 bs.length 1 false)] 40) (by kernel_rfl) ?_
    refine Run.seq (Run.nowK 9 (e' := mkE [(2, .sl 0 0 0 bs.length 1 false)] 41) (by kernel_rfl) ?_)
    refine Run.ret ⟨.sl 0 0 0 bs.length 1 false, by kernel_rfl, ?_⟩
    have : i = bs.length := by omega
    subst this
    have := rows_deep G
    rw [aheadS_len] at this
    exact this

def e20a (g : V) (n : Nat) (i : Int) : List V := mkE [(1, .fp g), (1, .sl 0 0 0 n 1 false), (0, .int .i64 i)] 49
def e20b (g : V) (n : Nat) (l : List Int) (i j : Int) : List V := mkE [(1, .fp g), (1, .sl 0 0 0 n 1 false), (0, .int .i64 i), (0, .fz (l.map (EI .i64).e)), (0, .int .i64 j)] 47
theorem c20 {x0 : T_Graph} {r : List (List Int)} (h : F20 x0 = some r) : Fn T 20 [(E_Graph.e x0)] [] (fun v hh => deep false hh deepN v = some ((EL (EL (EI .i64))).e r)) := by
  unfold F20 at h
  split at h
  case isFalse => cases h
  rename_i hn
  cases h
  refine Fn.enterE t20 (e0 := mkE [(0, E_Graph.e x0)] 53) (by kernel_rfl) ?_
  show Run T (.clr [] i20n34) _ _ (finE none [2] _)
  refine Run.clrE (e' := mkE [(0, E_Graph.e x0)] 53) (by kernel_rfl) ?_
  refine Run.seq (Run.nowK 9 (e' := mkE [(1, .fp (E_Graph.e x0))] 52) (by kernel_rfl) ?_)
  have hlen0 := len_fz E_Block x0.fBlocks
  have hix0 : ∀ (i : Nat) (x : Int) (b : T_Block), x = (i : Int) → x0.fBlocks[i]? = some b → idxaV (.fz (x0.fBlocks.map E_Block.e)) (.int .i64 x) 6 true = some (.fp (E_Block.e b)) := fun i x b hx hb => idx_fz E_Block (l := x0.fBlocks) (i := x) (a := b) .i64 (by rw [hx]; exact idx_some hb)
  refine Run.seq (Run.rgn (RunO.tk 2 (by kernel_rfl) ?_))
  refine RunO.p1 (by kernel_rfl) rfl (by kernel_rfl) hlen0 ?_
  refine RunO.w1 (by kernel_rfl) rfl (by kernel_rfl) (mks_nils [] x0.fBlocks.length hn) ?_
  refine RunO.tk 1 (by kernel_rfl) ?_
  refine RunO.done (e' := mkE [(1, .fp (E_Graph.e x0)), (1, .sl 0 0 0 x0.fBlocks.length 1 false)] 50) (by kernel_rfl) ?_
  refine Run.seq (Run.seq (Run.nowK 9 (e' := e20a (E_Graph.e x0) x0.fBlocks.length 0) (by kernel_rfl) ?_))
  have hld : ∀ H, ldV H (.fp (.fz (x0.fBlocks.map E_Block.e))) none = some (.fz (x0.fBlocks.map E_Block.e)) := fun H => rfl
  generalize hbs : x0.fBlocks = bs at hn hlen0 hix0
  refine Run.block ?_
  refine Run.loopc (fun n e h => ∃ (i : Nat) (x : Int) (vs : List V) (loc : Nat → Option (Nat × Nat)), x = (i : Int) ∧ i ≤ bs.length ∧ n = bs.length - i ∧ Grid 0 h 0 (aheadS bs i) vs loc ∧ e = e20a (E_Graph.e x0) bs.length x) bs.length ⟨0, 0, _, _, rfl, by omega, by omega, Grid.make 0 [] bs.length (by simp), by kernel_rfl⟩ ?_
  rintro n e h ⟨i, x, vs, loc, hx, hi, rfl, G, rfl⟩
  refine Run.seq (Run.seq (Run.rgn (RunO.tk 3 (by kernel_rfl) ?_)))
  refine RunO.p1 (by kernel_rfl) rfl (by rw [← hbs]; kernel_rfl) hlen0 ?_
  refine RunO.tk 1 (by kernel_rfl) ?_
  refine RunO.done (e' := mkE [(1, .fp (E_Graph.e x0)), (1, .sl 0 0 0 bs.length 1 false), (0, .int .i64 x), (10, .bool (decide (x < (bs.length : Int))))] 38) (by kernel_rfl) ?_
  by_cases hlt : i < bs.length
  · refine Run.condT (by rw [decide_eq_true (show x < (bs.length : Int) by omega)]; kernel_rfl) ?_
    refine Run.skip ?_
    refine Run.clrE (e' := e20a (E_Graph.e x0) bs.length x) (by kernel_rfl) ?_
    have hbi : bs[i]? = some bs[i] := List.getElem?_eq_getElem hlt
    generalize bs[i] = b at hbi
    refine Run.seq (Run.block (Run.seq (Run.rgn (RunO.tk 3 (by kernel_rfl) ?_))))
    refine RunO.p1 (by kernel_rfl) rfl (by rw [← hbs]; kernel_rfl) (hix0 i x b hx hbi) ?_
    refine RunO.tk 1 (by kernel_rfl) ?_
    refine RunO.c2 (by kernel_rfl) (by kernel_rfl) (by kernel_rfl) (c18 (x0 := b) (F18_is b)) ?_
    refine RunO.tk 1 (by kernel_rfl) ?_
    refine RunO.done (e' := mkE [(1, .fp (E_Graph.e x0)), (1, .sl 0 0 0 bs.length 1 false), (0, .int .i64 x), (0, .fz ((nextV b).map (EI .i64).e))] 48) (by kernel_rfl) ?_
    refine Run.seq (Run.nowK 9 (e' := e20b (E_Graph.e x0) bs.length (nextV b) x 0) (by kernel_rfl) ?_)
    have hst := aheadS_step hbi
    have hnl := next_le b
    generalize nextV b = l at hst hnl
    have hrow : ∀ j, j ≤ l.length → ∀ r ∈ (l.take j).foldl (addR bs.length i) (aheadS bs i), r.length ≤ 1099511627776 := by
      intro j hj r hr
      have := fold_row (l.take j) (aheadS_row bs i) r hr
      rw [List.length_take] at this; omega
    have hlen : ∀ j, ((l.take j).foldl (addR bs.length i) (aheadS bs i)).length = bs.length := fun j => by rw [fold_len, aheadS_len]
    refine Run.block ?_
    refine Run.loopc (fun n e h => ∃ (j : Nat) (y : Int) (vs : List V) (loc : Nat → Option (Nat × Nat)), y = (j : Int) ∧ j ≤ l.length ∧ n = l.length - j ∧ Grid 0 h 0 ((l.take j).foldl (addR bs.length i) (aheadS bs i)) vs loc ∧ e = e20b (E_Graph.e x0) bs.length l x y) l.length ⟨0, 0, _, _, rfl, by omega, by omega, G, by kernel_rfl⟩ ?_
    rintro n e h ⟨j, y, vs, loc, hy, hj, rfl, G, rfl⟩
    refine Run.seq (Run.seq (Run.rgn (RunO.tk 2 (by kernel_rfl) ?_)))
    refine RunO.p1 (by kernel_rfl) rfl (by kernel_rfl) (len_fz (EI .i64) l) ?_
    refine RunO.tk 1 (by kernel_rfl) ?_
    refine RunO.done (e' := mkE [(1, .fp (E_Graph.e x0)), (1, .sl 0 0 0 bs.length 1 false), (0, .int .i64 x), (0, .fz (l.map (EI .i64).e)), (0, .int .i64 y), (20, .bool (decide (y < (l.length : Int))))] 26) (by kernel_rfl) ?_
    by_cases hjl : j < l.length
    · refine Run.condT (by rw [decide_eq_true (show y < (l.length : Int) by omega)]; kernel_rfl) ?_
      refine Run.skip ?_
      refine Run.clrE (e' := e20b (E_Graph.e x0) bs.length l x y) (by kernel_rfl) ?_
      have hlj : l[j]? = some l[j] := List.getElem?_eq_getElem hjl
      have hstep : (l.take (j + 1)).foldl (addR bs.length i) (aheadS bs i) = addR bs.length i ((l.take j).foldl (addR bs.length i) (aheadS bs i)) l[j] := by
        rw [List.take_succ_eq_append_getElem hjl, List.foldl_append]; rfl
      generalize l[j] = k at hlj hstep
      have hadd : IntKind.i64.wrap (y + 1) = ((j + 1 : Nat) : Int) := by rw [hy, wrap64_in (by omega) (by omega)]; omega
      have hix := idx_fz (EI .i64) (l := l) (i := y) (a := k) .i64 (by rw [hy]; exact idx_some hlj)
      refine Run.seq (Run.block (Run.seq (Run.rgn (RunO.tk 2 (by kernel_rfl) ?_))))
      refine RunO.p1 (by kernel_rfl) rfl (by kernel_rfl) hix ?_
      refine RunO.tk 3 (by kernel_rfl) ?_
      refine RunO.c1 (by kernel_rfl) (by kernel_rfl) (c38 (in38 k (bs.length : Int)) _) ?_
      refine RunO.done (e' := mkE [(1, .fp (E_Graph.e x0)), (1, .sl 0 0 0 bs.length 1 false), (0, .int .i64 x), (0, .fz (l.map (EI .i64).e)), (0, .int .i64 y), (29, .bool (decide (0 ≤ k ∧ k < (bs.length : Int))))] 17) (by kernel_rfl) ?_
      by_cases hk : 0 ≤ k ∧ k < (bs.length : Int)
      · refine Run.condT (by rw [decide_eq_true hk]; kernel_rfl) ?_
        have hkl : k.toNat < ((l.take j).foldl (addR bs.length i) (aheadS bs i)).length := by rw [hlen]; omega
        obtain ⟨v, v', H1, H2, loc', g1, g2, g3, g4, g5, g6, g7, g8, _, _⟩ := G.app (List.getElem?_eq_getElem hkl) (hrow j hj _ (List.getElem_mem hkl)) (i : Int)
        have q1 : idxaV (.sl 0 0 0 bs.length 1 false) (.int .i64 k) 1 false = some (.ptr 0 0 k.toNat) := by simp [idxaV, hk.1, hk.2]
        have q2 : ldV h (.ptr 0 0 k.toNat) none = some v := by simp [ldV, rdB_of G.out, takeSh, g1]
        refine Run.rgn (RunO.tk 3 (by kernel_rfl) ?_)
        refine RunO.p1 (by kernel_rfl) rfl (by kernel_rfl) hix ?_
        refine RunO.tk 4 (by kernel_rfl) ?_
        refine RunO.p1 (by kernel_rfl) rfl (by kernel_rfl) hix ?_
        refine RunO.tk 1 (by kernel_rfl) ?_
        refine RunO.p1 (by kernel_rfl) rfl (by kernel_rfl) q1 ?_
        refine RunO.p1 (by kernel_rfl) rfl (by kernel_rfl) q2 ?_
        refine RunO.tk 2 (by kernel_rfl) ?_
        refine RunO.w1 (u := v') (H1 := H1) (by kernel_rfl) rfl (v := appV h v (.fz [.int .i64 x]) 1 false 8) (by kernel_rfl) (by rw [hx]; exact g3) ?_
        refine RunO.p1 (by kernel_rfl) rfl (by kernel_rfl) q1 ?_
        refine RunO.w1 (u := .sk) (H1 := H2) (by kernel_rfl) rfl (v := (stV H1 (.ptr 0 0 k.toNat) v' none).map fun H' => (.sk, H')) (by kernel_rfl) (by rw [g7]; rfl) ?_
        refine RunO.nil ?_
        show Run T (.clr _ (.rgn i20r16)) _ _ _
        refine Run.clrE (e' := e20b (E_Graph.e x0) bs.length l x y) (by kernel_rfl) ?_
        refine Run.rgn (RunO.tk 3 (by kernel_rfl) (RunO.nil ⟨l.length - (j + 1), by omega, j + 1, _, vs.set k.toNat v', loc', hadd, by omega, rfl, ?_, by kernel_rfl⟩))
        rw [hstep, addR_in hk hkl]; exact g8
      · refine Run.condF (by rw [decide_eq_false hk]; kernel_rfl) ?_
        refine Run.skip ?_
        show Run T (.clr _ (.rgn i20r16)) _ _ _
        refine Run.clrE (e' := e20b (E_Graph.e x0) bs.length l x y) (by kernel_rfl) ?_
        refine Run.rgn (RunO.tk 3 (by kernel_rfl) (RunO.nil ⟨l.length - (j + 1), by omega, j + 1, _, vs, loc, hadd, by omega, rfl, ?_, by kernel_rfl⟩))
        rw [hstep, addR_out hk]; exact G
    · refine Run.condF (by rw [decide_eq_false (show ¬ y < (l.length : Int) by omega)]; kernel_rfl) ?_
      refine Run.exit ?_
      show Run T (.clr _ (.rgn i20r24)) _ _ _
      refine Run.clrE (e' := e20a (E_Graph.e x0) bs.length x) (by kernel_rfl) ?_
      have hadd : IntKind.i64.wrap (x + 1) = ((i + 1 : Nat) : Int) := by rw [hx, wrap64_in (by omega) (by omega)]; omega
      refine Run.rgn (RunO.tk 3 (by kernel_rfl) (RunO.nil ⟨bs.length - (i + 1), by omega, i + 1, _, vs, loc, hadd, by omega, rfl, ?_, by kernel_rfl⟩))
      rw [List.take_of_length_le (by omega)] at G
      rw [hst]; exact G
  · refine Run.condF (by rw [decide_eq_false (show ¬ x < (bs.length : Int) by omega)]; kernel_rfl) ?_
    refine Run.exit ?_
    show Run T (.clr _ i20n31) _ _ _
    refine Run.clrE (e' := mkE [(3, .sl 0 0 0 bs.length 1 false)] 50) (by kernel_rfl) ?_
    refine Run.seq (Run.nowK 9 (e' := mkE [(2, .sl 0 0 0 bs.length 1 false)] 51) (by kernel_rfl) ?_)
    refine Run.ret ⟨.sl 0 0 0 bs.length 1 false, by kernel_rfl, ?_⟩
    have : i = bs.length := by omega
    subst this
    have := rows_deep G
    rw [aheadS_len] at this
    exact this
end Go.Eng.Gra
