/- GraphEdges, in plain words (no program in sight; conditions: those stated). -/
import Derived.Test.YtfkakbipedafiaaDoorGreE2
import Derived.Test.YtfkakbipedafiaaDoorGreF
namespace Go.Eng.Gra
open Go Go.Eng
set_option linter.unusedSectionVars false
set_option linter.unusedVariables false
set_option linter.unusedSimpArgs false

theorem F16_is (l : List Int) (x : Int) (hl : Sz l) : F16 l x = some (decide (x ∈ l)) := by
  have e : iter (fun s : (Int) => F16_1_b l x s) FUEL (0 : Int) = some (if (l.all fun a => !(a == x)) = true then .go () else .ret true) := by
    rw [← allI_const (fun a : Int => !(a == x)) 0]
    unfold Sz at hl
    refine loop_all (l := l) (fun _ a => !(a == x)) (by omega) (fun i a h => ?_) ?_
    · have := lt_of h
      simp only [F16_1_b, lt_dec this, if_true, idx_some h, Option.bind_some, wnat (show i ≤ 4611686018427387904 by omega)]
      cases a == x <;> rfl
    · simp only [F16_1_b, ge_dec, Bool.false_eq_true, if_false]
  unfold F16
  rw [e]
  by_cases hx : x ∈ l
  · have : (l.all fun a => !(a == x)) = false := by
      rw [Bool.eq_false_iff]; intro h
      have := List.all_eq_true.1 h x hx
      simp at this
    rw [this, decide_eq_true hx]; rfl
  · have : (l.all fun a => !(a == x)) = true := by
      rw [List.all_eq_true]; intro a ha
      have : a ≠ x := by rintro rfl; exact hx ha
      simp [this]
    rw [this, decide_eq_false hx]; rfl

/-- what Order answers -/
structure OrdOk (bs : List T_Block) (ord : List Int) : Prop where
  len : ord.length ≤ bs.length
  zero : 0 < bs.length → (0 : Int) ∈ ord
  rng : ∀ v ∈ ord, 0 ≤ v ∧ v < (bs.length : Int)
  clo : ∀ u ∈ ord, ∀ b, bs[u.toNat]? = some b → ∀ to, Edge bs b to → to ∈ ord
  prd : ∀ v ∈ ord, v = 0 ∨ ∃ u ∈ ord, ∃ b, bs[u.toNat]? = some b ∧ Edge bs b v
theorem order_ok (g : T_Graph) (hN : g.fBlocks.length ≤ 400) : ∃ ord, orderV g = some ord ∧ OrdOk g.fBlocks ord := by
  unfold orderV
  by_cases h0 : g.fBlocks.length = 0
  · rw [if_pos h0]
    exact ⟨[], rfl, ⟨by simp, fun h => by omega, fun v h => by simp at h, fun u h => by simp at h, fun v h => by simp at h⟩⟩
  rw [if_neg h0]
  generalize g.fBlocks = bs at hN h0
  rw [made_nat (by omega) (by omega), Option.bind_some]
  have hget : ∀ v : Nat, v < bs.length → (List.replicate bs.length false)[v]? = some false := fun v hv => by simp [hv]
  have hcnt : (List.replicate bs.length false).count false = bs.length := by simp
  obtain ⟨met', new, h1, h2, h3, h4⟩ := walk_ok bs (bs.length + 1) (List.replicate bs.length false) [] 0 (by simp) (hget 0 (by omega)) (by rw [hcnt]; omega) (by rw [hcnt]; simp; omega)
  have hc := h2.cnt
  rw [hcnt] at hc
  have h1 : walkV bs (bs.length + 1) 0 (List.replicate bs.length false, []) = some (met', new) := h1
  rw [h1, Option.bind_some]
  simp only
  rw [F36_is new (by omega)]
  refine ⟨new.reverse, rfl, ⟨by rw [List.length_reverse]; omega, fun _ => by simpa using h3, fun v hv => ?_, fun u hu b hb to he => ?_, fun v hv => ?_⟩⟩
  · have := (h2.mem v).mp (by simpa using hv)
    have h5 := (List.getElem?_eq_some_iff.mp this.2.1).1
    rw [List.length_replicate] at h5
    exact ⟨this.1, by omega⟩
  · rw [List.mem_reverse, h2.mem]
    exact ⟨he.1, hget _ (by have := he.1; have := he.2.1; omega), h2.clo u (by simpa using hu) b hb to he⟩
  · rcases h4 v (by simpa using hv) with h | ⟨u, hu, b, hb, he⟩
    · exact .inl (by simpa using h)
    · exact .inr ⟨u, by simpa using hu, b, hb, he⟩

theorem runs_cnt (n : Nat) : ∀ (l : List Int) (k : Nat) (e : Int), runs (R := Bool) (fun _ (e : Int) x => .inr (if inR n x = true then e + 1 else e)) k e l = .inr (e + (l.countP (inR n) : Nat))
  | [], k, e => by simp [runs]
  | x :: l, k, e => by
    rw [runs]
    show runs _ (k + 1) _ l = _
    rw [runs_cnt n l, List.countP_cons]
    congr 1
    split <;> omega
theorem runs_eds (bs : List T_Block) : ∀ (l : List T_Block) (i : Nat), l = bs.drop i → i ≤ bs.length → runs (R := Bool) (fun _ (e : Int) b => .inr (e + (((nextV b).countP (inR bs.length) : Nat) : Int))) i (eds bs i : Int) l = .inr (eds bs bs.length : Int)
  | [], i, h, hi => by
    have : i = bs.length := by have := congrArg List.length h; simp at this; omega
    subst this; rfl
  | b :: l, i, h, hi => by
    have hil : i < bs.length := by have := congrArg List.length h; simp at this; omega
    have hb : bs[i]? = some b := by have := congrArg (·[0]?) h; simpa using this.symm
    have h4 : l = bs.drop (i + 1) := by have := congrArg (·.drop 1) h; simpa [List.drop_drop] using this
    rw [runs]
    show runs _ (i + 1) _ l = _
    have := runs_eds bs l (i + 1) h4 hil
    rw [← this]
    simp only [eds, hb]; rfl
theorem runs_tot : ∀ (l : List (List Int)) (i : Nat) (e : Int), runs (R := Bool) (fun _ (e : Int) (r : List Int) => .inr (e - ((r.length : Nat) : Int))) i e l = .inr (e - (tot l : Nat))
  | [], i, e => by simp [runs, tot]
  | r :: l, i, e => by
    rw [runs]
    show runs _ (i + 1) _ l = _
    rw [runs_tot l]
    simp only [tot, List.map_cons, List.sum_cons]
    congr 1; omega
theorem runs_any (ord : List Int) : ∀ (l : List Int) (i : Nat) (m : Bool), runs (R := Bool) (fun _ m x => .inr (m || decide (x ∈ ord))) i m l = .inr (m || l.any fun x => decide (x ∈ ord))
  | [], i, m => by simp [runs]
  | x :: l, i, m => by
    rw [runs]
    show runs _ (i + 1) _ l = _
    rw [runs_any ord l, List.any_cons, Bool.or_assoc]

theorem edges (g : T_Graph) (hs : SzG g) : F4 g = some true := by
  unfold F4
  rw [awake9, Option.bind_some]
  simp only [Bool.not_true, Bool.false_eq_true, if_false]
  obtain ⟨c, hc, hsm⟩ := F12_is g hs
  rw [hc, Option.bind_some]
  cases c
  case true => rfl
  have hm := hsm rfl
  have hN := hm.blocks
  have e13 : F13 g = some (aheadV g.fBlocks) := by unfold F13; rw [if_pos (by omega)]
  obtain ⟨ord, ho, hO⟩ := order_ok g hN
  have e14 : F14 g = some ord := ho
  simp only [Bool.false_eq_true, if_false]
  rw [e13, Option.bind_some, e14, Option.bind_some]
  have hol := hO.len
  have hoS : Sz ord := by unfold Sz; omega
  have hlenA : (aheadV g.fBlocks).length = g.fBlocks.length := aheadS_len _ _
  have hrow : ∀ k, k < g.fBlocks.length → (aheadV g.fBlocks)[k]? = some (rowP g.fBlocks g.fBlocks.length k) := fun k hk => ahead_row g.fBlocks _ k (Nat.le_refl _) hk
  have hrl : ∀ k, k < g.fBlocks.length → (rowP g.fBlocks g.fBlocks.length k).length ≤ 800 := by
    intro k hk
    have := aheadS_row g.fBlocks g.fBlocks.length _ (List.mem_of_getElem? (hrow k hk))
    omega
  have htot : tot (aheadV g.fBlocks) = eds g.fBlocks g.fBlocks.length := tot_ahead _ _ (Nat.le_refl _)
  have hrow' : ∀ k, k < g.fBlocks.length → idx (aheadV g.fBlocks) (k : Int) = some (rowP g.fBlocks g.fBlocks.length k) := fun k hk => idx_some (hrow k hk)
  generalize aheadV g.fBlocks = A at hlenA hrow hrow' htot
  have q : (((List.length A : Nat) : Int) != ((List.length g.fBlocks : Nat) : Int)) = false := by simp [hlenA]
  rw [q]
  simp only [Bool.false_eq_true, if_false]
  -- the edges of all blocks
  have inner1 : ∀ (i : Nat) (b : T_Block) (e : Int), g.fBlocks[i]? = some b → 0 ≤ e → e ≤ 1000 →
      iter (fun s : (Int × Int) => F4_2_b g A ord (i : Int) (nextV b) s.1 s.2) FUEL (e, (0 : Int)) = some (.go (e + ((nextV b).countP (inR g.fBlocks.length) : Nat))) := by
    intro i b e hb he0 he1
    have hil := lt_of hb
    have hnl := next_le b
    have := loop_st (l := nextV b) (f := fun s : (Int × Int) => F4_2_b g A ord (i : Int) (nextV b) s.1 s.2) (mk := fun e k => (e, k)) (fin := fun e => e) (R := Bool) (fun _ (e : Int) x => .inr (if inR g.fBlocks.length x = true then e + 1 else e)) (fun k e => 0 ≤ e ∧ e ≤ 1000 + (k : Int)) (by omega) (fun k e x hI hx => ?_) (fun e hI => ?_) (s := e) ⟨he0, by omega⟩
    · rw [this, runs_cnt]; rfl
    · have hkl := lt_of hx
      obtain ⟨hI0, hI1⟩ := hI
      refine ⟨?_, fun s' hs' => by cases hs'; split <;> omega⟩
      show F4_2_b g A ord (i : Int) (nextV b) e (k : Int) = _
      have hw : IntKind.i64.wrap (e + 1) = e + 1 := wrap64_in (by omega) (by omega)
      simp only [F4_2_b, F4_j1, F4_j2, lt_dec hkl, if_true, idx_some hx, Option.bind_some, wnat (show k ≤ 4611686018427387904 by omega), hw, stpOf, hlenA]
      by_cases h1 : x < 0
      · rw [decide_eq_true h1]
        have : inR g.fBlocks.length x = false := decide_eq_false (by omega)
        simp only [if_true, this, Bool.false_eq_true, if_false]
      · rw [decide_eq_false h1]
        by_cases h2 : x ≥ (g.fBlocks.length : Int)
        · rw [decide_eq_true h2]
          have : inR g.fBlocks.length x = false := decide_eq_false (by omega)
          simp only [if_true, this, Bool.false_eq_true, if_false]
        · rw [decide_eq_false h2]
          have hin : inR g.fBlocks.length x = true := decide_eq_true (by omega)
          have hxn : x = ((x.toNat : Nat) : Int) := by omega
          have hxr := hrow' x.toNat (by omega)
          rw [← hxn] at hxr
          have hmem : (i : Int) ∈ rowP g.fBlocks g.fBlocks.length x.toNat := row_mem.mpr ⟨b, by omega, by simpa using hb, by rw [← hxn]; exact List.mem_of_getElem? hx⟩
          have hE : Edge g.fBlocks b x := ⟨by omega, by omega, (next_mem b x).mp (List.mem_of_getElem? hx)⟩
          have f1 := F16_is (rowP g.fBlocks g.fBlocks.length x.toNat) (i : Int) (by unfold Sz; have := hrl x.toNat (by omega); omega)
          rw [decide_eq_true hmem] at f1
          simp only [Bool.false_eq_true, if_false, hxr, Option.bind_some, f1, if_true, F16_is ord _ hoS, hin]
          by_cases hio : (i : Int) ∈ ord
          · have hxo : x ∈ ord := hO.clo _ hio b (by simpa using hb) x hE
            rw [decide_eq_true hio, decide_eq_true hxo]; rfl
          · rw [decide_eq_false hio]; rfl
    · show F4_2_b g A ord (i : Int) (nextV b) e ((nextV b).length : Int) = _
      simp only [F4_2_b, ge_dec, Bool.false_eq_true, if_false]
  have e1 : iter (fun s : (Int × Int) => F4_1_b g A ord s.1 s.2) FUEL ((0 : Int), (0 : Int)) = some (.go (eds g.fBlocks g.fBlocks.length : Int)) := by
    have := loop_st (l := g.fBlocks) (f := fun s : (Int × Int) => F4_1_b g A ord s.1 s.2) (mk := fun e k => (e, k)) (fin := fun e => e) (R := Bool) (fun _ (e : Int) b => .inr (e + (((nextV b).countP (inR g.fBlocks.length) : Nat) : Int))) (fun k e => e = (eds g.fBlocks k : Int)) (by omega) (fun i e b hI hb => ?_) (fun e hI => ?_) (s := (eds g.fBlocks 0 : Int)) rfl
    · have h2 := runs_eds g.fBlocks g.fBlocks 0 rfl (Nat.zero_le _)
      rw [h2] at this; exact this
    · have hil := lt_of hb
      have hle := eds_le g.fBlocks i
      subst hI
      refine ⟨?_, fun s' hs' => by cases hs'; simp only [eds, hb]; omega⟩
      have hi1 := inner1 i b ((eds g.fBlocks i : Nat) : Int) hb (by omega) (by omega)
      show F4_1_b g A ord _ (i : Int) = _
      simp only [F4_1_b, lt_dec hil, if_true, idx_some hb, Option.bind_some, F15, hi1, wnat (show i ≤ 4611686018427387904 by omega), stpOf]
    · show F4_1_b g A ord e (g.fBlocks.length : Int) = _
      simp only [F4_1_b, ge_dec, Bool.false_eq_true, if_false]
  rw [e1]
  simp only [Option.bind_some]
  -- what stands ahead
  have inner2 : ∀ (i : Nat) (e : Int) (r : List Int), i < g.fBlocks.length → A[i]? = some r →
      iter (fun s : (Bool × Int) => F4_4_b g A ord e (i : Int) r s.1 s.2) FUEL (((i : Int) == (0 : Int)), (0 : Int)) = some (.go (((i : Int) == (0 : Int)) || r.any fun x => decide (x ∈ ord))) := by
    intro i e r hil hr
    have hrP : r = rowP g.fBlocks g.fBlocks.length i := by rw [hrow i hil] at hr; exact (Option.some.inj hr).symm
    have hrlen : r.length ≤ 800 := by rw [hrP]; exact hrl i hil
    have hup : r.Pairwise (· < ·) := by rw [hrP]; exact row_up _ _ _
    have := loop_st (l := r) (f := fun s : (Bool × Int) => F4_4_b g A ord e (i : Int) r s.1 s.2) (mk := fun m k => (m, k)) (fin := fun m => m) (R := Bool) (fun _ m x => .inr (m || decide (x ∈ ord))) (fun k m => True) (by omega) (fun k m x hI hx => ?_) (fun m hI => ?_) (s := ((i : Int) == (0 : Int))) trivial
    · rw [this, runs_any]; rfl
    · have hkl := lt_of hx
      refine ⟨?_, fun s' hs' => trivial⟩
      show F4_4_b g A ord e (i : Int) r m (k : Int) = _
      have j4 : ∀ y, F4_j4 g A ord e (i : Int) r (k : Int) y = some (.next (y, ((k + 1 : Nat) : Int))) := by
        intro y
        unfold F4_j4 F4_j3
        by_cases hk : k = 0
        · subst hk; rfl
        · have h1 : ((k : Int) > 0) := by omega
          have hw : IntKind.i64.wrap ((k : Int) - 1) = ((k - 1 : Nat) : Int) := by rw [wrap64_in (by omega) (by omega)]; omega
          have hy : r[k - 1]? = some r[k - 1] := List.getElem?_eq_getElem (by omega)
          have hlt : r[k - 1] < x := by
            have := List.pairwise_iff_getElem.mp hup (k - 1) k (by omega) hkl (by omega)
            rw [List.getElem?_eq_getElem hkl] at hx
            rw [← Option.some.inj hx]; exact this
          rw [decide_eq_true h1]
          simp only [if_true, idx_some hr, Option.bind_some, idx_some hx, hw, idx_some hy, wnat (show k ≤ 4611686018427387904 by omega)]
          rw [decide_eq_false (show ¬ x ≤ r[k - 1] by omega)]; rfl
      simp only [F4_4_b, idx_some hr, Option.bind_some, lt_dec hkl, if_true, j4, idx_some hx, F16_is ord _ hoS, stpOf]
      cases m
      · simp only [Bool.false_eq_true, if_false, Bool.false_or]
        cases decide (x ∈ ord) <;> rfl
      · rfl
    · show F4_4_b g A ord e (i : Int) r m (r.length : Int) = _
      simp only [F4_4_b, idx_some hr, Option.bind_some, ge_dec, Bool.false_eq_true, if_false]
  have met : ∀ (i : Nat) (r : List Int), i < g.fBlocks.length → A[i]? = some r → (decide ((i : Int) ∈ ord)) = (((i : Int) == (0 : Int)) || r.any fun x => decide (x ∈ ord)) := by
    intro i r hil hr
    have hrP : r = rowP g.fBlocks g.fBlocks.length i := by rw [hrow i hil] at hr; exact (Option.some.inj hr).symm
    rw [Bool.eq_iff_iff, decide_eq_true_eq, Bool.or_eq_true, List.any_eq_true]
    constructor
    · intro h
      rcases hO.prd _ h with h0 | ⟨u, hu, b, hb, hE⟩
      · exact .inl (by simp [h0])
      · refine .inr ⟨u, ?_, decide_eq_true hu⟩
        rw [hrP]
        exact row_mem.mpr ⟨b, (hO.rng u hu).1, hb, (next_mem b _).mpr hE.2.2⟩
    · rintro (h0 | ⟨u, hu, ho⟩)
      · have h0 : (i : Int) = 0 := by simpa using h0
        rw [h0]; exact hO.zero (by omega)
      · rw [hrP] at hu
        obtain ⟨b, h0, hb, hm⟩ := row_mem.mp hu
        exact hO.clo u (of_decide_eq_true ho) b hb _ ⟨by omega, by omega, (next_mem b _).mp hm⟩
  have e2 : iter (fun s : (Int × Int) => F4_3_b g A ord s.1 s.2) FUEL ((eds g.fBlocks g.fBlocks.length : Int), (0 : Int)) = some (.go 0) := by
    have hed := eds_le g.fBlocks g.fBlocks.length
    have := loop_st (l := A) (f := fun s : (Int × Int) => F4_3_b g A ord s.1 s.2) (mk := fun e k => (e, k)) (fin := fun e => e) (R := Bool) (fun _ (e : Int) (r : List Int) => .inr (e - ((r.length : Nat) : Int))) (fun k e => -1000 * (k : Int) ≤ e ∧ e ≤ 1000) (by omega) (fun i e r hI hr => ?_) (fun e hI => ?_) (s := (eds g.fBlocks g.fBlocks.length : Int)) ⟨by omega, by omega⟩
    · rw [this, runs_tot, htot]
      simp [outOf]
    · have hil := lt_of hr
      have hil' : i < g.fBlocks.length := by omega
      have hrlen : r.length ≤ 800 := by
        have hrP : r = rowP g.fBlocks g.fBlocks.length i := by rw [hrow i hil'] at hr; exact (Option.some.inj hr).symm
        rw [hrP]; exact hrl i hil'
      obtain ⟨hI0, hI1⟩ := hI
      refine ⟨?_, fun s' hs' => by cases hs'; omega⟩
      show F4_3_b g A ord e (i : Int) = _
      have hw : IntKind.i64.wrap (e - ((List.length r : Nat) : Int)) = e - ((List.length r : Nat) : Int) := wrap64_in (by omega) (by omega)
      simp only [F4_3_b, lt_dec hil, if_true, idx_some hr, Option.bind_some, inner2 i e r hil' hr, F16_is ord _ hoS, met i r hil' hr, beq_self_eq_true, Bool.not_true, Bool.false_eq_true, if_false, hw, wnat (show i ≤ 4611686018427387904 by omega), stpOf]
    · show F4_3_b g A ord e (A.length : Int) = _
      simp only [F4_3_b, ge_dec, Bool.false_eq_true, if_false]
  rw [e2]
  simp only [Option.bind_some, beq_self_eq_true, if_true]
  congr 1
  by_cases h0 : g.fBlocks.length = 0
  · have : ord.length = 0 := by omega
    simp [h0, this]
  · have : 0 < ord.length := List.length_pos_of_mem (hO.zero (by omega))
    have q1 : (((List.length ord : Nat) : Int) == 0) = false := beq_false_of_ne (by omega)
    have q2 : (((List.length g.fBlocks : Nat) : Int) == 0) = false := beq_false_of_ne (by omega)
    rw [q1, q2]; rfl
end Go.Eng.Gra
