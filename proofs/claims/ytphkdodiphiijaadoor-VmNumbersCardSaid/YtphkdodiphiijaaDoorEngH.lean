/- Appends, literals, texts (no condition beyond those stated). -/
import Derived.Test.YtphkdodiphiijaaDoorEngG
namespace Go.Eng
open Go
set_option linter.unusedSectionVars false
set_option linter.unusedVariables false
set_option linter.unusedSimpArgs false
variable [Glob]

section
variable {wr : Nat → Prop} {W : World} {own : Own} {P : Program}

theorem cell_gl {W W2 : World} (g : Gl W W2) {b o : Nat} {v : Value} (h : W.cell? ⟨b, o, none⟩ = some v) : W2.cell? ⟨b, o, none⟩ = some v := by
  have hb : b < W.heap.size := World.block_lt_of_cell? _ _ h
  rw [cell_of_heap (g.same b hb)]; exact h

theorem grow_sz {zv : Value} {z : Nat} (hz : zv.cells.size = z) {l : List Value} {n m : Nat} (hl : l.length = n * z) (hnm : n ≤ m) :
    (l.toArray ++ Builtin.zeroCells zv.cells (m - n)).size = m * z := by
  rw [Array.size_append, size_zeroCells, hz]
  simp only [List.size_toArray, hl]
  rw [← Nat.add_mul]; congr 1; omega

theorem app_run {st xt ty : TypeId} {z by_ : Nat} {ag : Bool} (hel : chkEl P st z ag = true) (hxi : ((P.underlying xt) matches some (.int _)) = false) (hxt : hasT P xt = true)
    (hby : (match sliceOf P st with | some e => ((P.info? e).map (·.bytes) == some by_) && decide (0 < by_) && ((zeroOf P e).map (·.cells.size) == some z) | none => false) = true)
    {H H' : Heap} (s : St wr W own H) {sv x v : V} {s' x' : Value} (hs : VR wr W own sv s') (hx : VR wr W own x x') (h : appV H sv x z ag by_ = some (v, H')) :
    ∃ v' W', (Builtin.append_ #[st, xt] ty #[s', x']).run P W = .ok v' W' ∧ ∃ wr' own', Ext wr W own wr' W' own' ∧ St wr' W' own' H' ∧ VR wr' W' own' v v' := by
  obtain ⟨e, hu, hz, ha, hht, hz0, _⟩ := chkEl_spec hel
  have hso : sliceOf P st = some e := by simp [sliceOf, hu]
  rw [hso] at hby
  simp only [Bool.and_eq_true, beq_iff_eq, decide_eq_true_eq] at hby
  obtain ⟨i, zv, hi, hiz, hib, hzz, hzs⟩ := app_pre hz hby.1.1 hby.2
  obtain ⟨d, hd⟩ := Option.isSome_iff_exists.mp (show (P.underlying xt).isSome = true from hxt)
  have hdi : ∀ k, d ≠ .int k := by rintro k rfl; rw [hd] at hxi; simp at hxi
  unfold appV at h
  simp only [Option.bind_eq_some_iff] at h
  obtain ⟨⟨cs, n⟩, hnc, h⟩ := h
  obtain ⟨c1, c2, vs, c3, c4, c5⟩ := newCells_run (P := P) s.toRd hx hnc
  split at h
  · cases h
  rename_i hcell
  have hcell : cs.all V.isCell = true := by simpa using hcell
  have hnew1 := c5 W (fun _ _ _ h => h)
  have hnew2 := c5 W.drew (fun _ _ _ h => h)
  rw [← hiz] at hnew1 hnew2
  have hsz : vs.length = n * z := by rw [c3, c1]
  split at h
  · -- nil
    split at h
    · rename_i hfit
      rw [← hib] at hfit
      split at h
      · rename_i hn0
        cases h; cases hs
        have : n = 0 := hn0
        subst this
        refine ⟨_, W, append_room hu hd hdi hi (base := none) (sLen := 0) (sCap := 0) (Nat.le_refl _) c2 hnew1 (by simp) (fun _ => rfl), wr, own, Ext.refl _ _ _, s, .nils⟩
      · rename_i hn0
        cases h; cases hs
        have hold : (Builtin.firstCells i.size 0 (.slice none 0 0)).run P W.drew = .ok #[] W.drew := by simp [Builtin.firstCells]
        have hr := append_grow (ty := ty) hu hd hdi hi hzz (base := none) (sLen := 0) (sCap := 0) (n := n) (x' := x') (by omega) (by simpa using hfit) (by rw [hib]; exact hby.1.2) c2 hold hnew2
        refine ⟨_, _, hr, ?_⟩
        simp only [Nat.zero_add, Array.empty_append]
        have hge := grownCap_ge W n 0 e
        have hN := grow_sz hzs hsz hge
        obtain ⟨wr', own', e1, e2, e3⟩ := s.push (ty := e) (cs := cs) (arr := vs.toArray ++ Builtin.zeroCells zv.cells (grownCap W n 0 e - n)) (by simp; omega)
          (fun j c hj => by
            have hj' : j < vs.length := by rw [c3]; exact (List.getElem?_eq_some_iff.mp hj).1
            have := c4 j c vs[j] hj (by simp)
            have e : (vs.toArray ++ Builtin.zeroCells zv.cells (grownCap W n 0 e - n)).getD j undef = vs[j] := by
              apply getD_of_some; rw [Array.getElem?_append_left (by simpa using hj')]; simp
            rw [e]; exact this) ⟨W.drawn + 1, rfl⟩
        exact ⟨wr', own', e1, e2, .sl e3 hge (.inr (by simp)) (.inr (by rw [hN]; omega))⟩
    · cases h
  · rename_i b g off len z' ag'
    simp only [Option.bind_eq_some_iff] at h
    obtain ⟨old, hold, h⟩ := h
    split at h
    · rename_i hcond
      obtain ⟨rfl, hle, hfit⟩ := hcond
      cases h
      rw [← hib] at hfit
      have hb := rdB_some hold
      have hblt : b < H.length := (List.getElem?_eq_some_iff.mp hb).1
      have hC : LiveC wr W own b g old := by
        cases hs with
        | sl ho2 hl ha2 hN2 => exact (s.live b g old hb).resolve_right (by rintro ⟨rfl, h, _⟩; rw [h] at ho2; cases ho2)
      obtain ⟨cb, sh, N, ho, hN, ccs, tyb, lo, hi', hheap, hccs, hfr, hc⟩ := hC
      cases hs with
      | sl ho2 hl ha2 hN2 =>
        rename_i cb2 sh2 N2 a cap
        rw [ho] at ho2; cases ho2
        have hgen : ∀ g0 x0, own b g0 = some x0 → g0 < g + 1 ∨ (g0 = g + 1 ∧ False) := fun g0 x0 h0 => by
          have := (s.fut _ _ _ h0).2 g old hb; left; omega
        have holdlen : ((old.drop off).take (len * z')).length = len * z' := by simp; omega
        have hget : ∀ j c, j < len * z' → ((old.drop off).take (len * z'))[j]? = some c → old[off + j]? = some c := by
          intro j c hj' hj; simpa [hj'] using hj
        by_cases hroom : len + n ≤ cap
        · -- in place
          by_cases hcap : cap = 0
          · have hl0 : len = 0 := by omega
            have hn0 : n = 0 := by omega
            subst hcap; subst hl0; subst hn0
            have hcs : cs = [] := by apply List.eq_nil_of_length_eq_zero; rw [c1]; simp
            have hvs : vs = [] := by apply List.eq_nil_of_length_eq_zero; rw [hsz]; simp
            subst hcs; subst hvs
            refine ⟨_, W, append_room hu hd hdi hi (base := some a) (sLen := 0) (sCap := 0) (W' := W) (Nat.le_refl _) c2 hnew1 (fun a' _ => by simp [storeCells]) (fun _ => rfl), ?_⟩
            obtain ⟨wr', own', e1, e2, e3⟩ := s.change (b := b) (g' := g + 1) (cs' := []) (cb' := cb) (sh' := sh + off) (N' := N) (H' := H.set b (g + 1, (old.drop off).take (0 * z') ++ [])) (W' := W)
              (ccs := ccs) (ty := tyb) (lo := lo) (hi := hi') (fun x hx => by rw [List.getElem?_set_ne (Ne.symm hx)]) (by simp [hblt]) (by simp) (Io.refl _) (Nat.le_refl _) (fun x _ _ => rfl) (.inr ⟨g, old, sh, N, hb, ho⟩)
              (fun g0 x0 h0 => by rcases hgen g0 x0 h0 with h | h; exact .inl h; exact h.2.elim) hheap hccs hfr (by simp; omega) (fun j c hj => by simp at hj)
            exact ⟨wr', own', e1, e2, .sl e3 (Nat.le_refl _) (.inl rfl) (.inl rfl)⟩
          · have ea := ha2.resolve_left hcap
            have hNc := hN2.resolve_left hcap
            subst ea
            obtain ⟨ccs', a1, a2, a3, a4, a5, a6⟩ := setCells_heap cb tyb (lo, hi') vs (sh + off + len * z') W ccs hheap
            have hmul : len * z' + n * z' ≤ cap * z' := by rw [← Nat.add_mul]; exact Nat.mul_le_mul_right _ hroom
            have hst : (storeCells ((⟨cb, sh + off, none⟩ : Addr).add (len * i.size)) vs).run P W = .ok () (W.setCells cb (sh + off + len * z') vs) := by
              rw [hiz, add_none]
              have := run_storeCells_cells (P := P) cb (sh + off + len * z') vs 0 W ?_ ?_ ?_
              · simpa using this
              · intro j hj
                have : sh + off + len * z' + j < ccs.size := by omega
                simp only [World.cell?, hheap]; simp [this]
              · intro j hj
                have := hfr (sh + off + len * z' + 0 + j) (by omega)
                simp only [World.frozen?, hheap]; simpa using this
              · intro v hv
                obtain ⟨j, hj, rfl⟩ := List.getElem_of_mem hv
                have hj' : j < cs.length := by omega
                exact oneCell_of (c4 j cs[j] vs[j] (by simp) (by simp)) (List.all_eq_true.mp hcell _ (List.getElem_mem hj'))
            refine ⟨_, _, append_room hu hd hdi hi (base := some ⟨cb, sh + off, none⟩) (sLen := len) (sCap := cap) hroom c2 hnew1 (fun a' ha' => by cases ha'; exact hst) (fun h => by cases h), ?_⟩
            obtain ⟨wr', own', e1, e2, e3⟩ := s.change (b := b) (g' := g + 1) (cs' := (old.drop off).take (len * z') ++ cs) (cb' := cb) (sh' := sh + off) (N' := N)
              (H' := H.set b (g + 1, (old.drop off).take (len * z') ++ cs)) (W' := W.setCells cb (sh + off + len * z') vs)
              (ccs := ccs') (ty := tyb) (lo := lo) (hi := hi') (fun x hx => by rw [List.getElem?_set_ne (Ne.symm hx)]) (by simp [hblt]) (by simp) (setCells_io _ _ _ _) (Nat.le_of_eq a3.symm) (fun x _ hx => a4 x hx) (.inr ⟨g, old, sh, N, hb, ho⟩)
              (fun g0 x0 h0 => by rcases hgen g0 x0 h0 with h | h; exact .inl h; exact h.2.elim) a1 (by rw [a2, hccs]) hfr (by rw [List.length_append, holdlen, c1]; omega)
              (fun j c hj => by
                rcases Nat.lt_or_ge j (len * z') with h | h
                · rw [List.getElem?_append_left (by omega)] at hj
                  obtain ⟨cv, q1, q2⟩ := hc _ c (hget j c h hj)
                  exact ⟨cv, by rw [a5 _ (by omega), Nat.add_assoc]; exact q1, q2⟩
                · rw [List.getElem?_append_right (by omega), holdlen] at hj
                  have hj' : j - len * z' < vs.length := by rw [c3]; exact (List.getElem?_eq_some_iff.mp hj).1
                  refine ⟨vs[j - len * z'], ?_, c4 _ _ _ hj (by simp)⟩
                  have := a6 (j - len * z') vs[j - len * z'] (by simp) (by omega)
                  rwa [show sh + off + len * z' + (j - len * z') = sh + off + j by omega] at this)
            exact ⟨wr', own', e1, e2, .sl e3 hroom (.inr rfl) (.inr (by omega))⟩
        · -- a new block
          have hnc : cap < len + n := by omega
          obtain ⟨cv, hcv⟩ := s.toRd.get hold ho
          have hrd : (Builtin.firstCells i.size len (.slice (some a) len cap)).run P W.drew = .ok ((List.range (len * z')).map (fun j => cv (off + j))).toArray W.drew := by
            show (loadCells a (len * i.size)).run P W.drew = _
            rw [hiz]
            by_cases h0 : len * z' = 0
            · rw [h0]; simp [loadCells, loadCellsFrom]
            · have hcap : cap ≠ 0 := by rintro rfl; have : len = 0 := by omega
                                        simp [this] at h0
              have ea := ha2.resolve_left hcap
              subst ea
              refine load_row cb (sh + off) (len * z') _ (fun j hj => ?_)
              have hj' : off + j < old.length := by omega
              have := (hcv (off + j) _ (List.getElem?_eq_getElem hj')).1
              rw [show sh + off + j = sh + (off + j) by omega]
              exact this
          have hr := append_grow (ty := ty) hu hd hdi hi hzz (base := some a) (sLen := len) (sCap := cap) (n := n) (x' := x') hnc hfit (by rw [hib]; exact hby.1.2) c2 hrd hnew2
          have eapp : ((List.range (len * z')).map (fun j => cv (off + j))).toArray ++ vs.toArray = ((List.range (len * z')).map (fun j => cv (off + j)) ++ vs).toArray := by simp
          rw [eapp] at hr
          refine ⟨_, _, hr, ?_⟩
          have hge := grownCap_ge W (len + n) cap e
          have hol : ((List.range (len * z')).map (fun j => cv (off + j)) ++ vs).length = (len + n) * z' := by simp [hsz, Nat.add_mul]
          have hN3 := grow_sz hzs hol hge
          have hgl : Gl W (W.drew.alloc (.cells (((List.range (len * z')).map (fun j => cv (off + j)) ++ vs).toArray ++ Builtin.zeroCells zv.cells (grownCap W (len + n) cap e - (len + n))) e)) := (Gl.drew W).trans (Gl.alloc _ _)
          obtain ⟨wr', own', e1, e2, e3⟩ := s.change (b := b) (g' := g + 1) (cs' := (old.drop off).take (len * z') ++ cs) (cb' := W.heap.size) (sh' := 0) (N' := grownCap W (len + n) cap e * z')
              (H' := H.set b (g + 1, (old.drop off).take (len * z') ++ cs)) (lo := 0) (hi := 0) (ty := e)
              (fun x hx => by rw [List.getElem?_set_ne (Ne.symm hx)]) (by simp [hblt]) (by simp) hgl.io hgl.size (fun x hx _ => hgl.same x hx) (.inl (Nat.le_refl _))
              (fun g0 x0 h0 => by rcases hgen g0 x0 h0 with h | h; exact .inl h; exact h.2.elim) (alloc_get W.drew _) hN3 (fun i _ h => by omega)
              (by rw [List.length_append, holdlen, c1, ← Nat.add_mul]; simpa using Nat.mul_le_mul_right z' hge)
              (fun j c hj => by
                have hjl : j < ((List.range (len * z')).map (fun j => cv (off + j)) ++ vs).length := by
                  have := (List.getElem?_eq_some_iff.mp hj).1
                  rw [List.length_append, holdlen] at this; simp; omega
                rw [Nat.zero_add, Array.getElem?_append_left (by simpa using hjl)]
                simp only [List.getElem?_toArray]
                rcases Nat.lt_or_ge j (len * z') with h | h
                · rw [List.getElem?_append_left (by omega)] at hj
                  rw [List.getElem?_append_left (by simpa using h)]
                  have := hcv _ c (hget j c h hj)
                  exact ⟨cv (off + j), by simp [h], this.2⟩
                · rw [List.getElem?_append_right (by omega), holdlen] at hj
                  have hj' : j - len * z' < vs.length := by rw [c3]; exact (List.getElem?_eq_some_iff.mp hj).1
                  rw [List.getElem?_append_right (by simpa using h)]
                  exact ⟨vs[j - len * z'], by simp, c4 _ _ _ hj (by simp)⟩)
          exact ⟨wr', own', e1, e2, .sl e3 hge (.inr (by simp)) (.inr (by simp))⟩
    · cases h
  · cases h

/- ### literals -/
theorem fill_get (place : Nat → Option (Nat × Nat)) (spl : List (Nat × Nat × V)) : ∀ (parts : List (Nat × Value)) (arr : Array Value) (cs : List V) (res : V),
    cs.length = arr.size → (∀ j c, cs[j]? = some c → VR wr W own c (arr.getD j undef)) → bldV cs spl = some res →
    parts.length = spl.length → (∀ (k i : Nat) (v : Value) (off size : Nat) (x : V), parts[k]? = some (i, v) → spl[k]? = some (off, size, x) → place i = some (off, size) ∧ VR wr W own x v) →
    ∃ arr', Instr.fill place arr parts = some arr' ∧ VR wr W own res (.agg arr') := by
  induction spl with
  | nil =>
    intro parts arr cs res hl hv hb hp _
    have : parts = [] := by simpa using hp
    subst this
    simp only [bldV] at hb; cases hb
    exact ⟨arr, rfl, .ag hl hv⟩
  | cons q r ih =>
    intro parts arr cs res hl hv hb hp hrel
    obtain ⟨off, size, x⟩ := q
    cases parts with
    | nil => simp at hp
    | cons p ps =>
      obtain ⟨i, v⟩ := p
      obtain ⟨hpl, hx⟩ := hrel 0 i v off size x (by simp) (by simp)
      simp only [bldV] at hb
      split at hb
      · rename_i hcond
        obtain ⟨h1, h2, h3⟩ := hcond
        have hxc : x.isCell = true ∨ x.isAg = true := by
          cases x <;> simp_all [V.cells, V.isCell, V.isAg]
        obtain ⟨q1, q2⟩ := cells_sim hx hxc
        have hfold : ∀ (l : List Value) (o : Nat) (a : Array Value), o + l.length ≤ a.size →
            ∃ a', (l.zipIdx (o - off)).foldl (fun cs (p : Value × Nat) => cs.setIfInBounds (off + p.2) p.1) a = a' ∧ (off ≤ o → a'.size = a.size ∧ (∀ j, (j < o ∨ o + l.length ≤ j) → a'[j]? = a[j]?) ∧ ∀ j u, l[j]? = some u → a'[o + j]? = some u) := by
          intro l
          induction l with
          | nil => intro o a _; exact ⟨a, rfl, fun _ => ⟨rfl, fun _ _ => rfl, fun j u h => by simp at h⟩⟩
          | cons c l ihl =>
            intro o a hsz
            refine ⟨_, rfl, fun hoo => ?_⟩
            have hsz' : o + 1 + l.length ≤ (a.setIfInBounds o c).size := by simp at hsz ⊢; omega
            obtain ⟨a', e1, e2⟩ := ihl (o + 1) (a.setIfInBounds o c) hsz'
            obtain ⟨f1, f2, f3⟩ := e2 (by omega)
            have e : ((c :: l).zipIdx (o - off)).foldl (fun cs (p : Value × Nat) => cs.setIfInBounds (off + p.2) p.1) a = a' := by
              rw [List.zipIdx_cons, List.foldl_cons, ← e1]
              simp only [show off + (o - off) = o by omega, show o - off + 1 = o + 1 - off by omega]
            rw [e]
            refine ⟨by simpa using f1, fun j hj => ?_, fun j u hu => ?_⟩
            · simp at hj
              rw [f2 j (by omega), Array.getElem?_setIfInBounds_ne (by omega)]
            · cases j with
              | zero =>
                simp at hu; subst hu
                rw [f2 (o + 0) (by omega)]
                simp at hsz
                rw [Nat.add_zero, Array.getElem?_setIfInBounds_self_of_lt (by omega)]
              | succ j =>
                have := f3 j u (by simpa using hu)
                rwa [show o + (j + 1) = o + 1 + j by omega]
        obtain ⟨a', e1, e2⟩ := hfold v.cells.toList off arr (by simp; omega)
        obtain ⟨f1, f2, f3⟩ := e2 (Nat.le_refl _)
        have hstep : Instr.fill place arr ((i, v) :: ps) = Instr.fill place a' ps := by
          have hnot : ¬ (v.cells.size ≠ size ∨ off + v.cells.size > arr.size) := by omega
          simp only [Instr.fill, hpl]
          rw [if_neg (by simpa using hnot)]
          congr 1
          rw [← e1]
          simp only [Nat.sub_self]
          rw [← Array.foldl_toList, Array.toList_zipIdx]
        obtain ⟨arr', g1, g2⟩ := ih ps a' (splice cs off x.cells) res (by rw [f1]; simp [splice]; omega)
          (fun j c hj => by
            unfold splice at hj
            rw [List.append_assoc] at hj
            rcases Nat.lt_or_ge j off with k1 | k1
            · rw [List.getElem?_append_left (by simp; omega)] at hj
              have hj' : cs[j]? = some c := by simpa [k1] using hj
              have hlt : j < arr.size := by rw [← hl]; exact (List.getElem?_eq_some_iff.mp hj').1
              have := hv j c hj'
              rw [getD_of_some (Array.getElem?_eq_getElem hlt)] at this
              rw [getD_of_some (by rw [f2 j (.inl k1)]; exact Array.getElem?_eq_getElem hlt)]; exact this
            · have ht : (cs.take off).length = off := by simp; omega
              rw [List.getElem?_append_right (by omega), ht] at hj
              rcases Nat.lt_or_ge (j - off) x.cells.length with k2 | k2
              · rw [List.getElem?_append_left k2] at hj
                have := q2 _ c hj
                have hlt : j - off < v.cells.size := by omega
                rw [getD_of_some (Array.getElem?_eq_getElem hlt)] at this
                have h3 := f3 (j - off) v.cells[j - off] (by simp [hlt])
                rw [show off + (j - off) = j by omega] at h3
                rw [getD_of_some h3]; exact this
              · rw [List.getElem?_append_right k2] at hj
                have hj' : cs[j]? = some c := by
                  have e : off + x.cells.length + (j - off - x.cells.length) = j := by omega
                  simpa [e] using hj
                have hlt : j < arr.size := by rw [← hl]; exact (List.getElem?_eq_some_iff.mp hj').1
                have := hv j c hj'
                rw [getD_of_some (Array.getElem?_eq_getElem hlt)] at this
                rw [getD_of_some (by rw [f2 j (.inr (by simp; omega))]; exact Array.getElem?_eq_getElem hlt)]; exact this)
          hb (by simpa using hp) (fun k i v off size x h h' => hrel (k + 1) i v off size x (by simpa using h) (by simpa using h'))
        exact ⟨arr', by rw [hstep]; exact g1, g2⟩
      · cases hb
end
end Go.Eng
