/- The rounds of nearest nodes over a list (no program in sight; no condition beyond those stated). -/
import Derived.Test.YthobdkimccepbaaDomM
namespace DomMath
set_option linter.unusedVariables false
set_option linter.unusedSimpArgs false

/-- what a walk leaves -/
structure WalkOf (rows : List (List Int)) (left : List Nat) : Prop where
  nodup : left.Nodup
  mem : ∀ i, i ∈ left ↔ RB (Ed rows) i
  lt : ∀ i ∈ left, i < rows.length
  last : ∃ k, k + 1 = left.length ∧ left[k]? = some 0
  pred : ∀ k v : Nat, left[k]? = some v → v ≠ 0 → ∃ j p, k < j ∧ left[j]? = some p ∧ Ed rows p v
def rkF (left : List Nat) (i : Nat) : Nat := if i ∈ left then left.idxOf i + 1 else 0
theorem idx_get {left : List Nat} (h : left.Nodup) {k v : Nat} (hk : left[k]? = some v) : left.idxOf v = k := by
  obtain ⟨hl, rfl⟩ := List.getElem?_eq_some_iff.mp hk
  exact h.idxOf_getElem k hl
theorem rk_get {left : List Nat} (h : left.Nodup) {k v : Nat} (hk : left[k]? = some v) : rkF left v = k + 1 := by
  have : v ∈ left := by obtain ⟨hl, rfl⟩ := List.getElem?_eq_some_iff.mp hk; exact List.getElem_mem hl
  rw [rkF, if_pos this, idx_get h hk]
theorem mem_get {left : List Nat} {v : Nat} (h : v ∈ left) : left[left.idxOf v]? = some v := by
  have hl := List.idxOf_lt_length_of_mem h
  rw [List.getElem?_eq_getElem hl, List.getElem_idxOf hl]

/-- who has a nearest one, and which -/
def Sx (tr : List Int) (b : Nat) : Prop := b < tr.length ∧ 0 ≤ tr.getD b (-1)
def tx (tr : List Int) (b : Nat) : Nat := (tr.getD b (-1)).toNat
theorem getD_set_eq {α : Type} {l : List α} {i : Nat} (h : i < l.length) (x d : α) : (l.set i x).getD i d = x := by simp [List.getD, h]
theorem getD_set_ne {α : Type} {l : List α} {i j : Nat} (h : i ≠ j) (x d : α) : (l.set i x).getD j d = l.getD j d := by simp [List.getD, List.getElem?_set_ne h]
theorem Sx_set {tr : List Int} {v m : Nat} (hv : v < tr.length) : Sx (tr.set v (m : Int)) = fun b => Sx tr b ∨ b = v := by
  funext b; apply propext
  unfold Sx
  rw [List.length_set]
  by_cases h : b = v
  · subst h; rw [getD_set_eq hv]; exact ⟨fun _ => .inr rfl, fun _ => ⟨hv, by omega⟩⟩
  · rw [getD_set_ne (fun e => h e.symm)]; exact ⟨fun h => .inl h, fun h' => h'.resolve_right h⟩
theorem tx_set {tr : List Int} {v m : Nat} (hv : v < tr.length) : tx (tr.set v (m : Int)) = upd (tx tr) v m := by
  funext b
  unfold tx upd
  by_cases h : b = v
  · subst h; rw [getD_set_eq hv, if_pos rfl]; rfl
  · rw [getD_set_ne (fun e => h e.symm), if_neg h]
def cnt (left : List Nat) (r k b : Nat) : Nat := if k ≤ left.idxOf b then r else r - 1
/-- round r, where the nodes from place k on are done -/
structure Rd (rows : List (List Int)) (left : List Nat) (r k : Nat) (tr : List Int) : Prop where
  len : tr.length = rows.length
  inv : Inv (Ed rows) (rkF left) (Sx tr) (tx tr)
  cov : Cov (Ed rows) (rkF left) (Sx tr) (tx tr) (cnt left r k)
  who : ∀ b, Sx tr b ↔ b ∈ left ∧ (1 ≤ r ∨ k ≤ left.idxOf b)
  neg : ∀ b, b < rows.length → ¬ Sx tr b → tr.getD b (-1) = -1
section
variable {rows : List (List Int)} {left : List Nat}
theorem WalkOf.zero (W : WalkOf rows left) : 0 ∈ left := (W.mem 0).2 .zero
theorem WalkOf.rk0 (W : WalkOf rows left) : rkF left 0 = left.length := by
  obtain ⟨k, h1, h2⟩ := W.last
  rw [rk_get W.nodup h2, h1]
theorem WalkOf.idx0 (W : WalkOf rows left) : left.idxOf 0 + 1 = left.length := by
  obtain ⟨k, h1, h2⟩ := W.last
  rw [idx_get W.nodup h2, h1]
theorem WalkOf.few (W : WalkOf rows left) : left.length ≤ rows.length := DomMath.few _ _ W.nodup W.lt
theorem Rd.first (W : WalkOf rows left) (hn : 0 < rows.length) : Rd rows left 0 (left.length - 1) ((List.replicate rows.length (-1 : Int)).set 0 0) := by
  have hS : ∀ b, Sx ((List.replicate rows.length (-1 : Int)).set 0 0) b ↔ b = 0 := by
    intro b
    unfold Sx
    by_cases h : b = 0
    · subst h; rw [getD_set_eq (by simpa using hn)]; simp [hn]
    · rw [getD_set_ne (fun e => h e.symm)]
      constructor
      · rintro ⟨h1, h2⟩
        rw [List.length_set, List.length_replicate] at h1
        have : (List.replicate rows.length (-1 : Int)).getD b (-1) = -1 := by simp [List.getD, h1]
        rw [this] at h2; omega
      · intro h'; exact absurd h' h
  refine ⟨by simp, ⟨?_, ?_, ?_, ?_, ?_⟩, ?_, ?_, ?_⟩
  · intro b hb; rw [(hS b).1 hb]; exact ⟨_, _, .nil⟩
  · intro b hb h0; exact absurd ((hS b).1 hb) h0
  · intro b hb h0; exact absurd ((hS b).1 hb) h0
  · intro b d hb hd
    have hb := (hS b).1 hb
    subst hb
    have : d ∈ [0] := hd _ _ .nil
    rw [List.mem_singleton.1 this]; exact .refl _
  · intro b hb h0; exact absurd ((hS b).1 hb) h0
  · intro b hb i l hw _ d hd
    have hb := (hS b).1 hb
    subst hb
    cases hd with
    | refl => exact hw.last
    | up h0 _ => exact absurd rfl h0
  · intro b
    rw [hS b]
    have := W.idx0
    constructor
    · rintro rfl; exact ⟨W.zero, .inr (by omega)⟩
    · rintro ⟨h1, h2⟩
      have hl := List.idxOf_lt_length_of_mem h1
      have h3 : left.idxOf b = left.idxOf 0 := by omega
      have h4 := mem_get h1
      have h5 := mem_get W.zero
      rw [h3, h5] at h4
      injection h4 with h4; exact h4.symm
  · intro b hb hs
    have h : b ≠ 0 := fun h => hs ((hS b).2 h)
    rw [getD_set_ne (fun e => h e.symm)]
    simp [List.getD, hb]
/-- the nearest one over some -/
structure NearOf (tr : List Int) (E : Nat → Prop) (m : Nat) : Prop where
  s : Sx tr m
  all : ∀ p, Sx tr p → E p → Ch (tx tr) p m
  gr : ∀ d, (∀ p, Sx tr p → E p → Ch (tx tr) p d) → Ch (tx tr) m d
theorem idx_ne {left : List Nat} {a b : Nat} (ha : a ∈ left) (hb : b ∈ left) (h : a ≠ b) : left.idxOf a ≠ left.idxOf b := by
  intro e
  have h1 := mem_get ha
  rw [e, mem_get hb] at h1
  injection h1 with h1; exact h h1.symm
theorem rk_mem {left : List Nat} {a : Nat} (ha : a ∈ left) : rkF left a = left.idxOf a + 1 := by rw [rkF, if_pos ha]
theorem Rd.pre (W : WalkOf rows left) {r k v m : Nat} {tr : List Int} (R : Rd rows left r (k + 1) tr) (hk : left[k]? = some v) (hk1 : k + 1 < left.length) (N : NearOf tr (fun p => Ed rows p v) m) :
    v ≠ 0 ∧ v < tr.length ∧ Inv (Ed rows) (rkF left) (Sx (tr.set v (m : Int))) (tx (tr.set v (m : Int))) ∧ Cov (Ed rows) (rkF left) (Sx (tr.set v (m : Int))) (tx (tr.set v (m : Int))) (upd (cnt left r (k + 1)) v r) := by
  have hvm : v ∈ left := by obtain ⟨hl, rfl⟩ := List.getElem?_eq_some_iff.mp hk; exact List.getElem_mem hl
  have hix := idx_get W.nodup hk
  have hv0 : v ≠ 0 := by rintro rfl; have := W.idx0; omega
  have hvl : v < tr.length := by rw [R.len]; exact W.lt v hvm
  have hrv := rk_get W.nodup hk
  refine ⟨hv0, hvl, ?_⟩
  rw [Sx_set hvl, tx_set hvl]
  refine Inv.set R.inv R.cov hv0 N.s N.all N.gr ?_ ?_ ?_
  · obtain ⟨j, p, h1, h2, h3⟩ := W.pred k v hk hv0
    have hp : p ∈ left := by obtain ⟨hl, rfl⟩ := List.getElem?_eq_some_iff.mp h2; exact List.getElem_mem hl
    refine ⟨p, (R.who p).2 ⟨hp, .inr ?_⟩, h3, ?_⟩
    · rw [idx_get W.nodup h2]; omega
    · rw [hrv, rk_get W.nodup h2]; omega
  · intro p e hr
    have hp : p ∈ left := (W.mem p).2 ((reach_iff _).1 hr)
    rw [hrv, rk_mem hp]
    split
    · rename_i h
      have : k + 1 ≤ left.idxOf p := by omega
      exact ⟨(R.who p).2 ⟨hp, .inr this⟩, by rw [cnt, if_pos this]; exact Nat.le_refl _⟩
    · rename_i h
      by_cases h0 : r = 0
      · exact .inl h0
      · refine .inr ⟨(R.who p).2 ⟨hp, .inl (by omega)⟩, ?_⟩
        rw [cnt, if_neg (by omega)]; omega
  · intro b hb hlt
    have hbm := ((R.who b).1 hb).1
    rw [hrv, rk_mem hbm] at hlt
    rw [cnt, if_neg (by omega)]; omega
theorem Rd.step (W : WalkOf rows left) {r k v m : Nat} {tr : List Int} (R : Rd rows left r (k + 1) tr) (hk : left[k]? = some v) (hk1 : k + 1 < left.length) (N : NearOf tr (fun p => Ed rows p v) m) : Rd rows left r k (tr.set v (m : Int)) := by
  obtain ⟨hv0, hvl, h1, h2⟩ := R.pre W hk hk1 N
  have hvm : v ∈ left := by obtain ⟨hl, rfl⟩ := List.getElem?_eq_some_iff.mp hk; exact List.getElem_mem hl
  have hix := idx_get W.nodup hk
  have hcnt : ∀ b, b ∈ left → cnt left r k b = upd (cnt left r (k + 1)) v r b := by
    intro b hb
    unfold upd cnt
    by_cases h : b = v
    · subst h; rw [if_pos rfl, if_pos (by omega)]
    · rw [if_neg h]
      have := idx_ne hb hvm h
      by_cases h3 : k ≤ left.idxOf b
      · rw [if_pos h3, if_pos (by omega)]
      · rw [if_neg h3, if_neg (by omega)]
  have hwho : ∀ b, Sx (tr.set v (m : Int)) b ↔ b ∈ left ∧ (1 ≤ r ∨ k ≤ left.idxOf b) := by
    intro b
    rw [Sx_set hvl]
    show Sx tr b ∨ b = v ↔ _
    rw [R.who b]
    by_cases h : b = v
    · subst h; exact ⟨fun _ => ⟨hvm, .inr (by omega)⟩, fun _ => .inr rfl⟩
    · constructor
      · rintro (⟨h3, h4⟩ | h3)
        · exact ⟨h3, by omega⟩
        · exact absurd h3 h
      · rintro ⟨h3, h4⟩
        have := idx_ne h3 hvm h
        exact .inl ⟨h3, by omega⟩
  refine ⟨by rw [List.length_set, R.len], h1, ?_, hwho, ?_⟩
  · intro b hb i l hw hi d hd
    refine h2 b hb i l hw ?_ d hd
    rw [← hcnt b ((hwho b).1 hb).1]; exact hi
  · intro b hb hs
    have hs' := hs
    rw [Sx_set hvl] at hs'
    have h3 : b ≠ v := fun h => hs' (.inr h)
    rw [getD_set_ne (fun e => h3 e.symm)]
    exact R.neg b hb (fun h => hs' (.inl h))
theorem Rd.next (W : WalkOf rows left) {r : Nat} {tr : List Int} (R : Rd rows left r 0 tr) : Rd rows left (r + 1) (left.length - 1) tr := by
  refine ⟨R.len, R.inv, ?_, ?_, R.neg⟩
  · intro b hb i l hw hi d hd
    by_cases h : b = 0
    · subst h
      cases hd with
      | refl => exact hw.last
      | up h0 _ => exact absurd rfl h0
    · refine R.cov b hb i l hw ?_ d hd
      have hbm := ((R.who b).1 hb).1
      have := idx_ne hbm W.zero h
      have := List.idxOf_lt_length_of_mem hbm
      have := W.idx0
      rw [cnt, if_neg (by omega)] at hi
      rw [cnt, if_pos (by omega)]; omega
  · intro b; rw [R.who b]; constructor
    · rintro ⟨h, _⟩; exact ⟨h, .inl (by omega)⟩
    · rintro ⟨h, _⟩; exact ⟨h, .inr (by omega)⟩
/-- late rounds change nothing -/
theorem Rd.late (W : WalkOf rows left) {r k v m : Nat} {tr : List Int} (R : Rd rows left r (k + 1) tr) (hk : left[k]? = some v) (hk1 : k + 1 < left.length) (N : NearOf tr (fun p => Ed rows p v) m) (hr : rows.length ≤ r) :
    tr.getD v (-1) = (m : Int) := by
  obtain ⟨hv0, hvl, h1, h2⟩ := R.pre W hk hk1 N
  have hvm : v ∈ left := by obtain ⟨hl, rfl⟩ := List.getElem?_eq_some_iff.mp hk; exact List.getElem_mem hl
  have hlt : ∀ b, Reach (Ed rows) (rkF left) b → b < rows.length := fun b hb => W.lt b ((W.mem b).2 ((reach_iff _).1 hb))
  have hn : 1 ≤ rows.length := by have := W.lt v hvm; omega
  have a1 := R.inv.late R.cov hlt (fun b hb => by unfold cnt; split <;> omega)
  have a2 := h1.late h2 hlt (fun b hb => by unfold upd cnt; split; omega; split <;> omega)
  have hsv : Sx tr v := (R.who v).2 ⟨hvm, .inl (by omega)⟩
  have hsv' : Sx (tr.set v (m : Int)) v := by rw [Sx_set hvl]; exact .inr rfl
  have e : tx (tr.set v (m : Int)) v = m := by rw [tx_set hvl, upd_at]
  have hsm : Sx tr (tx (tr.set v (m : Int)) v) := by rw [e]; exact N.s
  have := R.inv.same h1 hsv hsv' hv0 (fun d => a1 v d hsv) (fun d => a2 v d hsv') (fun d => a1 _ d hsm)
  rw [e] at this
  have h3 := hsv.2
  unfold tx at this
  omega
/-- a round without a change: the tree is told -/
theorem Rd.done (W : WalkOf rows left) {r : Nat} {tr : List Int} (R : Rd rows left r 0 tr) (hf : ∀ v ∈ left, v ≠ 0 → ∀ p, Sx tr p → Ed rows p v → Ch (tx tr) p (tx tr v)) : TreeOf rows (tr.set 0 (-1)) := by
  have hS : ∀ b, Sx tr b ↔ RB (Ed rows) b := fun b => by rw [R.who b, ← W.mem b]; exact ⟨fun h => h.1, fun h => ⟨h, .inr (Nat.zero_le _)⟩⟩
  have key := R.inv.done (fun b hb => (hS b).2 ((reach_iff _).1 hb)) (fun v hv h0 p hp e => hf v ((W.mem v).2 ((hS v).1 hv)) h0 p hp e)
  refine ⟨by rw [List.length_set, R.len], ?_, ?_⟩
  · rintro b hb (rfl | h)
    · rw [getD_set_eq (by rw [R.len]; exact hb)]
    · have h0 : b ≠ 0 := by rintro rfl; exact h .zero
      rw [getD_set_ne (fun e => h0 e.symm)]
      exact R.neg b hb (fun hs => h ((hS b).1 hs))
  · intro b hb h0
    have hs := (hS b).2 hb
    obtain ⟨u1, u2⟩ := R.inv.up b hs h0
    refine ⟨tx tr b, ?_, ?_, ?_, ?_⟩
    · rw [getD_set_ne (fun e => h0 e.symm)]
      have := hs.2
      unfold tx; omega
    · intro e; rw [e] at u2; omega
    · exact (dom_iff _).1 ((key b _ hs).1 (.up h0 (.refl _)))
    · intro d hd hdb
      have h1 := (key b d hs).2 ((dom_iff _).2 hdb)
      cases h1 with
      | refl => exact absurd rfl hd
      | up _ h => exact (dom_iff _).1 ((key _ d u1).1 h)
end
end DomMath
