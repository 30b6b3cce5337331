/- Rows of rows of numbers in the small machine's heap (no condition beyond those stated). -/
import Derived.Test.YtphkdodiphiijaaDoorEngS
namespace Go.Eng
open Go
set_option linter.unusedSectionVars false
set_option linter.unusedVariables false
set_option linter.unusedSimpArgs false

theorem rdB_of {H : Heap} {b g : Nat} {cs : List V} (h : H[b]? = some (g, cs)) : rdB H b g = some cs := by simp [rdB, h]

/-- a row's value: nil, or a buffer of its own -/
def RowV (H : Heap) (v : V) (r : List Int) (loc : Option (Nat × Nat)) : Prop :=
  match loc with
  | none => v = .nils ∧ r = []
  | some (c, g) => v = .sl c g 0 r.length 1 false ∧ H[c]? = some (g, r.map vi)

structure Grid (base : Nat) (H : Heap) (b : Nat) (rows : List (List Int)) (vs : List V) (loc : Nat → Option (Nat × Nat)) : Prop where
  out : H[b]? = some (0, vs)
  len : vs.length = rows.length
  row : ∀ (k : Nat) (r : List Int), rows[k]? = some r → ∃ v, vs[k]? = some v ∧ RowV H v r (loc k)
  low : base ≤ b ∧ ∀ (k c g : Nat), loc k = some (c, g) → k < rows.length ∧ base ≤ c ∧ c ≠ b
  inj : ∀ (k j c g g' : Nat), loc k = some (c, g) → loc j = some (c, g') → k = j

theorem cells_ints (l : List Int) : (l.map vi).all V.isCell = true := by simp [vi, V.isCell]
theorem flat_ints (l : List Int) : (l.map vi).flatMap V.cells = l.map vi := by induction l <;> simp_all [vi, V.cells]

theorem app_nils (H : Heap) (x : Int) : appV H .nils (.fz [.int .i64 x]) 1 false 8 = some (.sl H.length 0 0 1 1 false, H ++ [(0, [vi x])]) := by
  simp [appV, newCells, hdOk, V.cells, V.isCell, vi]
theorem app_own {H : Heap} {c g : Nat} {r : List Int} (h : H[c]? = some (g, r.map vi)) (hl : r.length ≤ 1099511627776) (x : Int) :
    appV H (.sl c g 0 r.length 1 false) (.fz [.int .i64 x]) 1 false 8 = some (.sl c (g + 1) 0 (r.length + 1) 1 false, H.set c (g + 1, (r ++ [x]).map vi)) := by
  have hf : (r.length + 1) * 8 ≤ 140737488355328 := by omega
  simp [appV, newCells, hdOk, V.cells, V.isCell, rdB_of h, vi, hf]
  rw [List.take_of_length_le (by simp)]

/-- a row made longer, and put back -/
theorem Grid.app {base : Nat} {H : Heap} {b : Nat} {rows : List (List Int)} {vs : List V} {loc : Nat → Option (Nat × Nat)} (G : Grid base H b rows vs loc) {k : Nat} {r : List Int} (hk : rows[k]? = some r) (hl : r.length ≤ 1099511627776) (x : Int) :
    ∃ v v' H1 H2 loc', vs[k]? = some v ∧ fitsSh v none = true ∧ appV H v (.fz [.int .i64 x]) 1 false 8 = some (v', H1) ∧ H1[b]? = some (0, vs) ∧ fitsSh v' none = true ∧ H2 = H1.set b (0, vs.set k v') ∧ stV H1 (.ptr b 0 k) v' none = some H2 ∧
      Grid base H2 b (rows.set k (r ++ [x])) (vs.set k v') loc' ∧ (∀ c, c < base → c < H.length → H2[c]? = H[c]?) ∧ H.length ≤ H2.length := by
  obtain ⟨v, hv, hr⟩ := G.row k r hk
  have hkl : k < rows.length := (List.getElem?_eq_some_iff.mp hk).1
  have hbl : b < H.length := (List.getElem?_eq_some_iff.mp G.out).1
  have stv : ∀ (H1 : Heap) (c g n : Nat), H1[b]? = some (0, vs) → stV H1 (.ptr b 0 k) (.sl c g 0 n 1 false) none = some (H1.set b (0, vs.set k (.sl c g 0 n 1 false))) := by
    intro H1 c g n h1
    have hfit : k + 1 ≤ vs.length := by rw [G.len]; omega
    simp [stV, rdB_of h1, fitsSh, V.isCell, V.cells, hfit]
  unfold RowV at hr
  cases hloc : loc k with
  | none =>
    rw [hloc] at hr
    obtain ⟨rfl, rfl⟩ := hr
    have hb1 : (H ++ [(0, [vi x])])[b]? = some (0, vs) := by rw [List.getElem?_append_left hbl]; exact G.out
    refine ⟨.nils, _, _, _, fun j => if j = k then some (H.length, 0) else loc j, hv, rfl, app_nils H x, hb1, rfl, rfl, stv _ _ _ _ hb1, ?_, ?_, by simp⟩
    · have hnew : ((H ++ [(0, [vi x])]).set b (0, vs.set k (.sl H.length 0 0 1 1 false)))[H.length]? = some (0, [vi x]) := by
        rw [List.getElem?_set_ne (by omega)]; simp
      refine ⟨by rw [List.getElem?_set_self (by rw [List.length_append]; omega)], by simp [G.len], ?_, ⟨G.low.1, ?_⟩, ?_⟩
      · intro j rj hj
        by_cases hjk : j = k
        · subst hjk
          rw [List.getElem?_set_self hkl] at hj; cases hj
          refine ⟨_, by rw [List.getElem?_set_self (by rw [G.len]; exact hkl)], ?_⟩
          simp only [RowV, if_true]
          exact ⟨rfl, by simpa using hnew⟩
        · rw [List.getElem?_set_ne (Ne.symm hjk)] at hj
          obtain ⟨w, hw, hrw⟩ := G.row j rj hj
          refine ⟨w, by rw [List.getElem?_set_ne (Ne.symm hjk)]; exact hw, ?_⟩
          simp only [RowV, if_neg hjk] at hrw ⊢
          cases hlj : loc j with
          | none => rw [hlj] at hrw; exact hrw
          | some p =>
            obtain ⟨c, g⟩ := p
            rw [hlj] at hrw
            have hcl : c < H.length := (List.getElem?_eq_some_iff.mp hrw.2).1
            refine ⟨hrw.1, ?_⟩
            rw [List.getElem?_set_ne (Ne.symm (G.low.2 j c g hlj).2.2), List.getElem?_append_left hcl]; exact hrw.2
      · intro j c g hjl
        by_cases hjk : j = k
        · subst hjk
          simp only [if_true, Option.some.injEq, Prod.mk.injEq] at hjl
          have := G.low.1
          exact ⟨by simpa using hkl, by omega, by omega⟩
        · simp only [if_neg hjk] at hjl
          obtain ⟨h1, h2, h3⟩ := G.low.2 j c g hjl
          exact ⟨by simpa using h1, h2, h3⟩
      · intro j j' c g g' hj hj'
        have lt : ∀ m c g, loc m = some (c, g) → c < H.length := by
          intro m c g hm
          obtain ⟨w, _, hrw⟩ := G.row m _ (List.getElem?_eq_getElem (G.low.2 m c g hm).1)
          rw [hm] at hrw
          exact (List.getElem?_eq_some_iff.mp hrw.2).1
        by_cases h1 : j = k <;> by_cases h2 : j' = k
        · omega
        · simp only [h1, if_true, Option.some.injEq, Prod.mk.injEq] at hj
          simp only [if_neg h2] at hj'
          have := lt _ _ _ hj'; omega
        · simp only [h2, if_true, Option.some.injEq, Prod.mk.injEq] at hj'
          simp only [if_neg h1] at hj
          have := lt _ _ _ hj; omega
        · simp only [if_neg h1] at hj
          simp only [if_neg h2] at hj'
          exact G.inj _ _ _ _ _ hj hj'
    · intro c hc hcl
      have := G.low.1
      rw [List.getElem?_set_ne (by omega), List.getElem?_append_left hcl]
  | some p =>
    obtain ⟨c, g⟩ := p
    rw [hloc] at hr
    obtain ⟨rfl, hc⟩ := hr
    obtain ⟨_, hcb, hcne⟩ := G.low.2 k c g hloc
    have hcl : c < H.length := (List.getElem?_eq_some_iff.mp hc).1
    have hb1 : (H.set c (g + 1, (r ++ [x]).map vi))[b]? = some (0, vs) := by rw [List.getElem?_set_ne hcne]; exact G.out
    refine ⟨_, _, _, _, fun j => if j = k then some (c, g + 1) else loc j, hv, rfl, app_own hc hl x, hb1, rfl, rfl, stv _ _ _ _ hb1, ?_, ?_, by simp⟩
    · refine ⟨by simp [hbl], by simp [G.len], ?_, ⟨G.low.1, ?_⟩, ?_⟩
      · intro j rj hj
        by_cases hjk : j = k
        · subst hjk
          rw [List.getElem?_set_self hkl] at hj; cases hj
          refine ⟨_, by rw [List.getElem?_set_self (by rw [G.len]; exact hkl)], ?_⟩
          simp only [RowV, if_true]
          refine ⟨by simp, ?_⟩
          rw [List.getElem?_set_ne (Ne.symm hcne), List.getElem?_set_self hcl]
        · rw [List.getElem?_set_ne (Ne.symm hjk)] at hj
          obtain ⟨w, hw, hrw⟩ := G.row j rj hj
          refine ⟨w, by rw [List.getElem?_set_ne (Ne.symm hjk)]; exact hw, ?_⟩
          simp only [RowV, if_neg hjk] at hrw ⊢
          cases hlj : loc j with
          | none => rw [hlj] at hrw; exact hrw
          | some p =>
            obtain ⟨c', g'⟩ := p
            rw [hlj] at hrw
            have hne : c ≠ c' := by rintro rfl; exact hjk (G.inj _ _ _ _ _ hlj hloc)
            refine ⟨hrw.1, ?_⟩
            rw [List.getElem?_set_ne (Ne.symm (G.low.2 j c' g' hlj).2.2), List.getElem?_set_ne hne]; exact hrw.2
      · intro j c' g' hjl
        by_cases hjk : j = k
        · subst hjk
          simp only [if_true, Option.some.injEq, Prod.mk.injEq] at hjl
          obtain ⟨rfl, rfl⟩ := hjl
          exact ⟨by simpa using hkl, hcb, hcne⟩
        · simp only [if_neg hjk] at hjl
          obtain ⟨h1, h2, h3⟩ := G.low.2 j c' g' hjl
          exact ⟨by simpa using h1, h2, h3⟩
      · intro j j' c' g1 g2 hj hj'
        by_cases h1 : j = k <;> by_cases h2 : j' = k
        · omega
        · simp only [h1, if_true, Option.some.injEq, Prod.mk.injEq] at hj
          simp only [if_neg h2] at hj'
          obtain ⟨rfl, _⟩ := hj
          exact absurd (G.inj _ _ _ _ _ hj' hloc) h2
        · simp only [h2, if_true, Option.some.injEq, Prod.mk.injEq] at hj'
          simp only [if_neg h1] at hj
          obtain ⟨rfl, _⟩ := hj'
          exact absurd (G.inj _ _ _ _ _ hj hloc) h1
        · simp only [if_neg h1] at hj
          simp only [if_neg h2] at hj'
          exact G.inj _ _ _ _ _ hj hj'
    · intro c' hc' hcl'
      have := G.low.1
      rw [List.getElem?_set_ne (by omega), List.getElem?_set_ne (by omega)]

/-- the rows of nothing -/
theorem Grid.make (base : Nat) (H : Heap) (n : Nat) (hb : base ≤ H.length) : Grid base (H ++ [(0, List.replicate n V.nils)]) H.length (List.replicate n []) (List.replicate n V.nils) (fun _ => none) := by
  refine ⟨by simp, by simp, ?_, ⟨hb, fun k c g h => by cases h⟩, fun k j c g g' h => by cases h⟩
  intro k r hk
  rw [List.getElem?_replicate] at hk
  split at hk
  · rename_i hlt; cases hk
    exact ⟨.nils, by rw [List.getElem?_replicate, if_pos hlt], rfl, rfl⟩
  · cases hk

def drow (f : V → Option V) (ag : Bool) (r : List V) : Option V := if ag then (omap f r).map .ag else match r with | [c] => (f c).bind fun u => if u.isAg then none else some u | _ => none
theorem deep_sl (strict : Bool) (H : Heap) (n b g off len z : Nat) (ag : Bool) : deep strict H (n + 1) (.sl b g off len z ag) = (rdB H b g).bind fun cs =>
    if off + len * z ≤ cs.length ∧ 0 < z ∧ (ag = true ∨ z = 1) then (omap (drow (deep strict H n) ag) (rows z len (cs.drop off))).map .fz else none := rfl
theorem drow_one (f : V → Option V) (c : V) : drow f false [c] = (f c).bind fun u => if u.isAg then none else some u := rfl

theorem rows_one : ∀ (n : Nat) (l : List V), l.length = n → rows 1 n l = l.map fun v => [v]
  | 0, l, h => by have : l = [] := List.eq_nil_of_length_eq_zero h; subst this; rfl
  | n + 1, v :: l, h => by
    simp only [rows, List.take_succ_cons, List.take_zero, List.drop_succ_cons, List.drop_zero, List.map_cons]
    rw [rows_one n l (by simpa using h)]
  | n + 1, [], h => by simp at h

theorem omap_map {α β γ : Type} (f : α → β) (g : β → Option γ) (h : α → γ) : ∀ (l : List α), (∀ a ∈ l, g (f a) = some (h a)) → omap g (l.map f) = some (l.map h)
  | [], _ => rfl
  | a :: l, hh => by
    have h0 := hh a (by simp)
    have ih := omap_map f g h l (fun b hb => hh b (by simp [hb]))
    simp [omap, h0, ih]

/-- a buffer of numbers, as a value -/
theorem deep_ints {strict : Bool} {H : Heap} {c g n : Nat} {r : List Int} (h : H[c]? = some (g, r.map vi)) : deep strict H (n + 2) (.sl c g 0 r.length 1 false) = some (vis r) := by
  rw [deep_sl, rdB_of h, Option.bind_some, if_pos (by simp), List.drop_zero, rows_one r.length (r.map vi) (by simp), List.map_map]
  have := omap_map (fun x : Int => [vi x]) (drow (deep strict H (n + 1)) false) vi r (fun a _ => rfl)
  simp only [Function.comp_def]
  rw [this]; rfl

theorem Grid.deep {strict : Bool} {base : Nat} {H : Heap} {b : Nat} {rows : List (List Int)} {vs : List V} {loc : Nat → Option (Nat × Nat)} (G : Grid base H b rows vs loc) (hne : strict = false ∨ True) :
    ∃ ws : List V, Go.Eng.deep strict H deepN (.sl b 0 0 rows.length 1 false) = some (.fz ws) ∧ ws.length = rows.length ∧ ∀ (k : Nat) (r : List Int), rows[k]? = some r → ws[k]? = some (vis r) ∨ (r = [] ∧ ws[k]? = some (.fz [])) := by
  have key : ∀ (k : Nat) (v : V), vs[k]? = some v → ∃ w, (Go.Eng.deep strict H 39 v).bind (fun u => if u.isAg then none else some u) = some w ∧ ∀ r, rows[k]? = some r → w = vis r ∨ (r = [] ∧ w = .fz []) := by
    intro k v hv
    have hkl : k < rows.length := by rw [← G.len]; exact (List.getElem?_eq_some_iff.mp hv).1
    obtain ⟨v', hv', hr⟩ := G.row k _ (List.getElem?_eq_getElem hkl)
    rw [hv] at hv'; cases hv'
    unfold RowV at hr
    split at hr
    · obtain ⟨rfl, hrr⟩ := hr
      exact ⟨.fz [], rfl, fun r h => .inr ⟨by rw [List.getElem?_eq_getElem hkl] at h; cases h; exact hrr, rfl⟩⟩
    · rename_i c g hl
      obtain ⟨rfl, hc⟩ := hr
      exact ⟨vis rows[k], by rw [deep_ints (n := 37) hc]; rfl, fun r h => .inl (by rw [List.getElem?_eq_getElem hkl] at h; cases h; rfl)⟩
  have build : ∀ (l : List V), (∀ (k : Nat) (v : V), l[k]? = some v → ∃ w, (Go.Eng.deep strict H 39 v).bind (fun u => if u.isAg then none else some u) = some w) →
      ∃ ws, omap (drow (Go.Eng.deep strict H 39) false) (l.map fun v => [v]) = some ws ∧ ws.length = l.length ∧
        ∀ (k : Nat) (v : V), l[k]? = some v → ∃ w, ws[k]? = some w ∧ (Go.Eng.deep strict H 39 v).bind (fun u => if u.isAg then none else some u) = some w := by
    intro l
    induction l with
    | nil => intro _; exact ⟨[], rfl, rfl, fun k v h => by simp at h⟩
    | cons v l ih =>
      intro h
      obtain ⟨w, hw⟩ := h 0 v (by simp)
      obtain ⟨ws, h1, h2, h3⟩ := ih (fun k u hu => h (k + 1) u (by simpa using hu))
      refine ⟨w :: ws, ?_, by simp [h2], fun k u hu => ?_⟩
      · simp only [List.map_cons, omap, h1, drow_one, hw]
      · cases k with
        | zero => simp at hu; subst hu; exact ⟨w, by simp, hw⟩
        | succ k => simpa using h3 k u (by simpa using hu)
  obtain ⟨ws, h1, h2, h3⟩ := build vs (fun k v hv => by obtain ⟨w, hw, _⟩ := key k v hv; exact ⟨w, hw⟩)
  refine ⟨ws, ?_, by rw [h2, G.len], fun k r hk => ?_⟩
  · show Go.Eng.deep strict H (39 + 1) (.sl b 0 0 rows.length 1 false) = some (.fz ws)
    rw [deep_sl, rdB_of G.out, Option.bind_some, if_pos (by simp [G.len]), List.drop_zero, rows_one rows.length vs G.len, h1]; rfl
  · have hkl : k < vs.length := by rw [G.len]; exact (List.getElem?_eq_some_iff.mp hk).1
    obtain ⟨w, hw, he⟩ := h3 k _ (List.getElem?_eq_getElem hkl)
    obtain ⟨w', he', hr⟩ := key k _ (List.getElem?_eq_getElem hkl)
    rw [he] at he'; cases he'
    rcases hr r hk with rfl | ⟨rfl, rfl⟩
    · exact .inl hw
    · exact .inr ⟨rfl, hw⟩

/-- a slice of numbers, or nil -/
def IsInts (w : V) (r : List Int) : Prop := w = vis r ∨ (r = [] ∧ w = .nils)
theorem IsInts.vis (r : List Int) : IsInts (vis r) r := .inl rfl
theorem IsInts.len {w : V} {r : List Int} (h : IsInts w r) : lenV false w = some (.int .i64 (r.length : Int)) := by
  rcases h with rfl | ⟨rfl, rfl⟩
  · exact len_vis r
  · rfl
theorem IsInts.idx {w : V} {r : List Int} (h : IsInts w r) {n : Int} (h0 : 0 ≤ n) (h1 : n < r.length) : idxaV w (.int .i64 n) 1 false = some (.fp (.int .i64 (r.getD n.toNat 0))) := by
  rcases h with rfl | ⟨rfl, rfl⟩
  · exact idx_vis h0 h1
  · simp at h1; omega
theorem IsInts.free {w : V} {r : List Int} (h : IsInts w r) : V.free deepN w = true := by
  rcases h with rfl | ⟨rfl, rfl⟩ <;> rfl
theorem IsInts.cells {w : V} {r : List Int} (h : IsInts w r) : okEl 1 false w = true := by
  rcases h with rfl | ⟨rfl, rfl⟩ <;> rfl
theorem IsInts.fits {w : V} {r : List Int} (h : IsInts w r) : fitsSh w none = true := by
  rcases h with rfl | ⟨rfl, rfl⟩ <;> rfl
/-- rows of numbers -/
def IsRows (ws : List V) (rows : List (List Int)) : Prop := ws.length = rows.length ∧ ∀ (k : Nat) (r : List Int), rows[k]? = some r → ∃ w, ws[k]? = some w ∧ IsInts w r
theorem IsRows.idx {ws : List V} {rows : List (List Int)} (h : IsRows ws rows) {n : Int} (h0 : 0 ≤ n) (h1 : n < rows.length) : ∃ w, IsInts w (rows.getD n.toNat []) ∧ idxaV (.fz ws) (.int .i64 n) 1 false = some (.fp w) ∧ ldV [] (.fp w) none = some w ∧ ∀ H, ldV H (.fp w) none = some w := by
  have hl : n.toNat < rows.length := by omega
  obtain ⟨w, hw, hi⟩ := h.2 n.toNat _ (List.getElem?_eq_getElem hl)
  have e : rows.getD n.toNat [] = rows[n.toNat] := by simp [List.getD, hl]
  exact ⟨w, by rw [e]; exact hi, idxaV_fz h0 hw hi.cells, by simp only [ldV, hi.fits, if_true], fun H => by simp only [ldV, hi.fits, if_true]⟩
theorem Grid.isRows {base : Nat} {H : Heap} {b : Nat} {rows : List (List Int)} {vs : List V} {loc : Nat → Option (Nat × Nat)} (G : Grid base H b rows vs loc) :
    ∃ ws : List V, Go.Eng.deep false H deepN (.sl b 0 0 rows.length 1 false) = some (.fz ws) ∧ IsRows ws rows := by
  obtain ⟨ws, h1, h2, h3⟩ := G.deep (strict := false) (.inr trivial)
  refine ⟨ws, h1, h2, fun k r hk => ?_⟩
  rcases h3 k r hk with h | ⟨h, h'⟩
  · exact ⟨_, h, .inl rfl⟩
  · exact ⟨_, h', .inl (by rw [h]; rfl)⟩
/-- a call whose answer stands by itself -/
theorem PC.now {T : Nat → Option IFun} {H : Heap} {f : Nat} {args : List V} {v : V} (hfree : args.all (V.free deepN) = true) (hv : V.free deepN v = true) (h : ∀ H, Fn T f args H (fun r Hc => r = v ∧ Hc = H)) (hd : omap (deep false H deepN) args = some args := by rfl) (hz : nz deepN v = v := by rfl) : PC T H f args v :=
  PC.of hfree ((h []).mono (fun r Hc ⟨h1, _⟩ => by subst h1; rw [deep_free deepN hv, hz])) hd
/-- a call whose answer is told as it stands by itself -/
theorem PC.ex {T : Nat → Option IFun} {H : Heap} {f : Nat} {args : List V} {P : V → Prop} (hfree : args.all (V.free deepN) = true) (h : Fn T f args [] (fun r Hc => ∃ w, deep false Hc deepN r = some w ∧ P w)) (hd : omap (deep false H deepN) args = some args := by rfl) : ∃ w, P w ∧ PC T H f args w := by
  obtain ⟨k, r, Hc, h1, w, h2, h3⟩ := h
  exact ⟨w, h3, PC.of hfree ⟨k, r, Hc, h1, h2⟩ hd⟩
theorem yes_spec {r : Option (V × Heap)} (h : yes r = true) : ∃ h', r = some (.bool true, h') := by
  unfold yes at h
  split at h
  · exact ⟨_, rfl⟩
  · cases h
theorem PC.yes {T : Nat → Option IFun} {H : Heap} {f k : Nat} {args : List V} (hfree : args.all (V.free deepN) = true) (h : yes (exF T k f args []) = true) (hd : omap (deep false H deepN) args = some args := by rfl) : PC T H f args (.bool true) := by
  obtain ⟨h', h1⟩ := yes_spec h
  exact PC.of hfree ⟨k, _, _, h1, rfl⟩ hd
end Go.Eng
namespace Go.Eng
open Go
theorem ite_t {α : Sort _} {c : Bool} {a b : α} (h : c = true) : (if c then a else b) = a := by rw [if_pos h]
theorem ite_f {α : Sort _} {c : Bool} {a b : α} (h : c = false) : (if c then a else b) = b := by rw [if_neg (by rw [h]; decide)]
/-- one round of a loop -/
def again (T : Nat → Option IFun) (b : Ir) (Q : X → List V → Heap → Prop) : X → List V → Heap → Prop
  | .nrm, e, h => Run T (.loop b) e h Q
  | x, e, h => Q x e h
theorem Run.loop1 {T : Nat → Option IFun} {env : List V} {H : Heap} {b : Ir} {Q : X → List V → Heap → Prop} (h : Run T b env H (again T b Q)) : Run T (.loop b) env H Q := by
  obtain ⟨k, x, e, H', h1, h2⟩ := h
  cases x with
  | nrm =>
    obtain ⟨k2, x2, e2, H2, h3, h4⟩ := h2
    refine ⟨max k k2 + 1, x2, e2, H2, ?_, h4⟩
    have m1 := exec_mono (exF_mono k (show k ≤ max k k2 + 1 by omega)) k (show k ≤ max k k2 by omega) h1
    have m2 := exec_mono (exF_mono k2 (show k2 ≤ max k k2 + 1 by omega)) k2 (show k2 ≤ max k k2 by omega) h3
    simp only [exec, m1, m2]
  | ret => exact ⟨k + 1, .ret, e, H', by simp only [exec, exec_mono (exF_mono k (Nat.le_succ k)) k (Nat.le_refl k) h1], h2⟩
  | ext i => exact ⟨k + 1, .ext i, e, H', by simp only [exec, exec_mono (exF_mono k (Nat.le_succ k)) k (Nat.le_refl k) h1], h2⟩
/-- the bits of a float that may be none that is known -/
def wordV (x : Option Nat) : V :=
  match x with
  | some b => .int .u64 (b : Int)
  | none => .nanw
theorem wordV_some (b : Nat) : wordV (some b) = .int .u64 (b : Int) := rfl
theorem xc_from (n : Int) : xcV .frombits (.int .u64 n) = some (.fl (some n.toNat)) := rfl
theorem xc_trunc (x : Option Nat) : xcV .trunc (.fl x) = some (.fl (x.bind truncB)) := by cases x <;> rfl
theorem beq_no {a b : Int} (h : (a == b) = false) : ¬ a = b := by simpa using h
theorem u64_nn (x : Int) : 0 ≤ IntKind.u64.wrap x := by rw [IntKind.wrap_u64]; omega
theorem if_neg_u64 {α : Type} (x : Int) (a b : α) : (if IntKind.u64.wrap x < 0 then a else b) = b := if_neg (by have := u64_nn x; omega)
theorem if_neg_one {α : Type} (a b : α) : (if (1 : Int) < 0 then a else b) = b := if_neg (by decide)
theorem xc_word (x : Option Nat) : xcV .bits (.fl x) = some (wordV x) := by cases x <;> rfl
/-- rules that are used at each row, as one -/
theorem SB : (∀ (F : FT) (env : List V) (H : Heap), exOps F [] env H = some (env, H)) ∧ (∀ (F : FT) (o : IOp) (r : List IOp) (env : List V) (H : Heap), exOps F (o :: r) env H = bindO (exOp F o env H) (exOps F r)) ∧
    (∀ (e : List V) (h : Heap) (f : List V → Heap → Option (List V × Heap)), bindO (some (e, h)) f = f e h) ∧ (∀ (env : List V) (d : Nat) (v : V), put env (some d) v = env.set d v) ∧ (∀ (env : List V) (n : Nat), (Opd.t n).ev env = env.getD n .un) ∧
    (∀ (env : List V) (v : V), (Opd.c v).ev env = v) ∧ (∀ (x : V) (l : List V) (d : V), (x :: l).getD 0 d = x) ∧ (∀ (x : V) (l : List V) (n : Nat) (d : V), (x :: l).getD (n + 1) d = l.getD n d) ∧ (∀ (x : V) (l : List V) (b : V), (x :: l).set 0 b = b :: l) ∧
    (∀ (x : V) (l : List V) (n : Nat) (b : V), (x :: l).set (n + 1) b = x :: l.set n b) ∧ (∀ (a : List V × Heap) (f : List V × Heap → Prop), optB (some a) f = f a) ∧ (∀ (env : List V) (H : Heap) (d : Option Nat) (v : V), mapQ (some v) env d H = some (put env d v, H)) :=
  ⟨fun _ _ _ => rfl, fun _ _ _ _ _ => rfl, fun _ _ _ => rfl, fun _ _ _ => rfl, fun _ _ => rfl, fun _ _ => rfl, fun _ _ _ => rfl, fun _ _ _ _ => rfl, fun _ _ _ => rfl, fun _ _ _ _ => rfl, fun a f => optB_some a f, fun _ _ _ _ => rfl⟩
end Go.Eng
