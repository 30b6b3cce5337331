/- A block's phis: the program and the reference alike; a program that is not wide (no program in sight; conditions: those stated). -/
import Derived.Test.YtfkakbipedafiaaDoorGraP2
namespace Go.Eng.Gra
open Go Go.Eng
set_option linter.unusedSectionVars false
set_option linter.unusedVariables false
set_option linter.unusedSimpArgs false

def badPhi (z : Bool) (n k : Nat) (set : List Int) (x : T_Ins) : Bool := z || (decide (set.length ≠ k) || (decide (x.fArgs.length ≠ n) || set.any (x.fDst == ·)))
def stepPhi (z : Bool) (n : Nat) (k : Nat) (set : List Int) (x : T_Ins) : Bool ⊕ List Int := if x.fKind = 1 then (if badPhi z n k set x = true then .inl false else .inr (set ++ [x.fDst])) else .inr set
def jn (z : Bool) (n : Nat) (k : Nat) (set : List Int) (l : List T_Ins) : Bool := match runs (stepPhi z n) k set l with | .inl _ => false | .inr _ => true
theorem runs_left (z : Bool) (n : Nat) : ∀ (l : List T_Ins) (k : Nat) (set : List Int), (∃ s, runs (stepPhi z n) k set l = .inr s ∧ jn z n k set l = true) ∨ (runs (stepPhi z n) k set l = .inl false ∧ jn z n k set l = false)
  | [], k, set => .inl ⟨set, rfl, rfl⟩
  | x :: l, k, set => by
    unfold jn
    rw [runs]
    cases h : stepPhi z n k set x with
    | inl r =>
      have : r = false := by
        unfold stepPhi at h; split at h
        · split at h
          · cases h; rfl
          · cases h
        · cases h
      subst this
      exact .inr ⟨rfl, rfl⟩
    | inr s => exact runs_left z n l (k + 1) s

theorem F61_is (b : T_Block) (n : Nat) (hb : b.fIns.length ≤ 1000000) : F61 b (n : Int) = some (jn false n 0 [] b.fIns) := by
  have e : iter (fun s : ((List Int) × Int) => F61_1_b b (n : Int) s.1 s.2) FUEL ([], (0 : Int)) = some (outOf (fun _ => ()) (runs (stepPhi false n) 0 [] b.fIns)) := by
    refine loop_st (l := b.fIns) (f := fun s : List Int × Int => F61_1_b b (n : Int) s.1 s.2) (mk := fun s i => (s, i)) (fin := fun s => ()) (stepPhi false n) (fun i s => s.length ≤ i) (by omega) (fun i s a hI ha => ?_) (fun s hI => ?_) (s := []) (by simp)
    · have hil := lt_of ha
      refine ⟨?_, fun s' hs' => ?_⟩
      · show F61_1_b b (n : Int) s (i : Int) = _
        simp only [F61_1_b, F61_j1, lt_dec hil, if_true, idx_some ha, Option.bind_some, F79_is s a.fDst (by unfold Sz; omega), more_nat (by_ := 8) (l := s) (r := [a.fDst]) (by simp; omega), wnat (show i ≤ 4611686018427387904 by omega), stepPhi, badPhi, stpOf]
        by_cases hk : a.fKind = 1
        · by_cases h1 : s.length = i
          · by_cases h2 : a.fArgs.length = n
            · have q1 : ((i : Int) != (s.length : Int)) = false := by simp [h1]
              have q2 : ((a.fArgs.length : Int) != (n : Int)) = false := by simp [h2]
              have q3 : (a.fKind != 1) = false := by simp [hk]
              rw [q3, q1, q2]
              rcases Bool.eq_false_or_eq_true (s.any (a.fDst == ·)) with hc | hc <;> simp only [hc] <;> simp [hk, h1, h2]
            · have q1 : ((i : Int) != (s.length : Int)) = false := by simp [h1]
              have q2 : ((a.fArgs.length : Int) != (n : Int)) = true := by simp; omega
              have q3 : (a.fKind != 1) = false := by simp [hk]
              rw [q3, q1, q2]; simp [hk, h2]
          · have q1 : ((i : Int) != (s.length : Int)) = true := by simp; omega
            have q3 : (a.fKind != 1) = false := by simp [hk]
            rw [q3, q1]; simp [hk, h1]
        · have q3 : (a.fKind != 1) = true := by simp [hk]
          rw [q3]; simp [hk]
      · unfold stepPhi at hs'
        split at hs'
        · split at hs'
          · cases hs'
          · cases hs'; simp; omega
        · cases hs'; omega
    · show F61_1_b b (n : Int) s (b.fIns.length : Int) = _
      simp only [F61_1_b, ge_dec, Bool.false_eq_true, if_false]
  unfold F61
  rw [e]
  rcases runs_left false n b.fIns 0 [] with ⟨s, h1, h2⟩ | ⟨h1, h2⟩
  · rw [h1, h2]; rfl
  · rw [h1, h2]; rfl
/-- the reference's walk over a block's phis -/
theorem F85_in (g : T_Graph) (A : List (List Int)) (j : Nat) (b : T_Block) (r : List Int) (hr : A[j]? = some r) (hb : b.fIns.length ≤ 1000000) :
    iter (fun s : ((List Int) × Int) => F85_2_b g A (j : Int) b s.1 s.2) FUEL ([], (0 : Int)) = some (if jn (decide (j = 0)) r.length 0 [] b.fIns = true then .go () else .ret false) := by
  have e : iter (fun s : ((List Int) × Int) => F85_2_b g A (j : Int) b s.1 s.2) FUEL ([], (0 : Int)) = some (outOf (fun _ => ()) (runs (stepPhi (decide (j = 0)) r.length) 0 [] b.fIns)) := by
    refine loop_st (l := b.fIns) (f := fun s : List Int × Int => F85_2_b g A (j : Int) b s.1 s.2) (mk := fun s i => (s, i)) (fin := fun s => ()) (stepPhi (decide (j = 0)) r.length) (fun i s => s.length ≤ i) (by omega) (fun i s a hI ha => ?_) (fun s hI => ?_) (s := []) (by simp)
    · have hil := lt_of ha
      refine ⟨?_, fun s' hs' => ?_⟩
      · show F85_2_b g A (j : Int) b s (i : Int) = _
        obtain ⟨t, ht1, ht2⟩ := F49_is s a.fDst (by unfold Sz; omega)
        simp only [F85_2_b, F85_j1, lt_dec hil, if_true, idx_some ha, idx_some hr, Option.bind_some, ht1, ht2, more_nat (by_ := 8) (l := s) (r := [a.fDst]) (by simp; omega), wnat (show i ≤ 4611686018427387904 by omega), stepPhi, badPhi, stpOf]
        by_cases hk : a.fKind = 1
        · have q3 : (a.fKind != 1) = false := by simp [hk]
          rw [q3]
          by_cases h0 : j = 0
          · subst h0; simp [hk]
          · have q0 : ((j : Int) == 0) = false := by simp [h0]
            rw [q0]
            by_cases h1 : s.length = i
            · have q1 : ((s.length : Int) != (i : Int)) = false := by simp [h1]
              rw [q1]
              by_cases h2 : a.fArgs.length = r.length
              · have q2 : ((a.fArgs.length : Int) != (r.length : Int)) = false := by simp [h2]
                rw [q2]
                rcases Bool.eq_false_or_eq_true (s.any (a.fDst == ·)) with hc | hc <;> simp only [hc] <;> simp [hk, h0, h1, h2]
              · have q2 : ((a.fArgs.length : Int) != (r.length : Int)) = true := by simp; omega
                rw [q2]; simp [hk, h2]
            · have q1 : ((s.length : Int) != (i : Int)) = true := by simp; omega
              rw [q1]; simp [hk, h1]
        · have q3 : (a.fKind != 1) = true := by simp [hk]
          rw [q3]; simp [hk]
      · unfold stepPhi at hs'
        split at hs'
        · split at hs'
          · cases hs'
          · cases hs'; simp; omega
        · cases hs'; omega
    · show F85_2_b g A (j : Int) b s (b.fIns.length : Int) = _
      simp only [F85_2_b, ge_dec, Bool.false_eq_true, if_false]
  rw [e]
  rcases runs_left (decide (j = 0)) r.length b.fIns 0 [] with ⟨s, h1, h2⟩ | ⟨h1, h2⟩
  · rw [h1, h2]; rfl
  · rw [h1, h2]; rfl
theorem jn_late (z : Bool) (n : Nat) : ∀ (l : List T_Ins) (k : Nat) (set : List Int), set.length < k → jn z n k set l = l.all fun x => !decide (x.fKind = 1)
  | [], k, set, h => rfl
  | x :: l, k, set, h => by
    unfold jn
    rw [runs, List.all_cons]
    by_cases hk : x.fKind = 1
    · have hb : badPhi z n k set x = true := by unfold badPhi; simp; omega
      have hs : stepPhi z n k set x = .inl false := by unfold stepPhi; rw [if_pos hk, if_pos hb]
      rw [hs]; simp [hk]
    · have hs : stepPhi z n k set x = .inr set := by unfold stepPhi; rw [if_neg hk]
      rw [hs]
      have := jn_late z n l (k + 1) set (by omega)
      simp only [hk, decide_false, Bool.not_false, Bool.true_and]
      exact this
/-- is a block's first instruction a phi? -/
def phi0 (b : T_Block) : Bool := match b.fIns with | [] => false | x :: _ => decide (x.fKind = 1)
theorem jn_zero (b : T_Block) (n : Nat) : jn true n 0 [] b.fIns = (jn false n 0 [] b.fIns && !phi0 b) := by
  unfold phi0
  cases b.fIns with
  | nil => rfl
  | cons x l =>
    by_cases hk : x.fKind = 1
    · have h1 : jn true n 0 [] (x :: l) = false := by
        have hs : stepPhi true n 0 [] x = .inl false := by unfold stepPhi; rw [if_pos hk]; rfl
        unfold jn; rw [runs, hs]
      rw [h1]; simp [hk]
    · have h1 : ∀ z, jn z n 0 [] (x :: l) = l.all fun x => !decide (x.fKind = 1) := by
        intro z
        have hs : stepPhi z n 0 [] x = .inr [] := by unfold stepPhi; rw [if_neg hk]
        have := jn_late z n l 1 [] (by simp)
        unfold jn at this ⊢
        rw [runs, hs]; exact this
      rw [h1, h1]; simp [hk]

/-- sizes of a graph that is not great -/
structure Small (g : T_Graph) : Prop where
  blocks : g.fBlocks.length ≤ 400
  ins : ∀ b ∈ g.fBlocks, b.fIns.length ≤ 2000
theorem F12_is (g : T_Graph) (hs : SzG g) : ∃ b, F12 g = some b ∧ (b = false → Small g) := by
  unfold F12
  by_cases h1 : ((List.length g.fBlocks : Nat) : Int) > 400
  · exact ⟨true, by rw [decide_eq_true h1]; rfl, fun h => by cases h⟩
  rw [decide_eq_false h1]
  simp only [Bool.false_eq_true, if_false]
  cases decide (((List.length g.fVars : Nat) : Int) > 2000)
  case true => exact ⟨true, rfl, fun h => by cases h⟩
  cases decide (((List.length g.fArrays : Nat) : Int) > 2000)
  case true => exact ⟨true, rfl, fun h => by cases h⟩
  cases decide (((List.length g.fParams : Nat) : Int) > 2000)
  case true => exact ⟨true, rfl, fun h => by cases h⟩
  simp only [Bool.false_eq_true, if_false]
  have key : ∃ o, iter (fun s : (Int × Int) => F12_1_b g s.1 s.2) FUEL ((0 : Int), (0 : Int)) = some o ∧ (o = .ret true ∨ o = .go () ∧ ∀ b ∈ g.fBlocks, b.fIns.length ≤ 2000) := by
    refine iter_ok (I := fun m s => ∃ i : Nat, i ≤ g.fBlocks.length ∧ m = g.fBlocks.length - i ∧ s.2 = (i : Int) ∧ 0 ≤ s.1 ∧ s.1 ≤ 2000 ∧ ∀ (j : Nat) b, j < i → g.fBlocks[j]? = some b → b.fIns.length ≤ 2000) ?_ FUEL g.fBlocks.length _ ⟨0, by omega, by omega, rfl, by decide, by decide, fun j b h => by omega⟩ (by unfold FUEL; omega)
    rintro m ⟨n, i'⟩ ⟨i, hi, rfl, hi', hn0, hn1, hall⟩
    simp only at hi' hn0 hn1
    subst hi'
    unfold F12_1_b
    by_cases hil : i < g.fBlocks.length
    · have hb : g.fBlocks[i]? = some g.fBlocks[i] := List.getElem?_eq_getElem hil
      generalize g.fBlocks[i] = b at hb
      have hmem : b ∈ g.fBlocks := List.mem_of_getElem? hb
      have hbi := hs.ins b hmem
      unfold Sz at hbi
      have hw : IntKind.i64.wrap (n + ((List.length b.fIns : Nat) : Int)) = n + ((List.length b.fIns : Nat) : Int) := wrap64_in (by omega) (by omega)
      simp only [lt_dec hil, if_true, idx_some hb, Option.bind_some, hw]
      have hin : ∃ o, iter (fun s : (Int × Int) => F12_2_b g (i : Int) s.1 s.2) FUEL (n + ((List.length b.fIns : Nat) : Int), (0 : Int)) = some o ∧ ∃ v, o = .go v ∧ n + ((List.length b.fIns : Nat) : Int) ≤ v := by
        refine iter_ok (I := fun m s => ∃ k : Nat, k ≤ b.fIns.length ∧ m = b.fIns.length - k ∧ s.2 = (k : Int) ∧ n + ((List.length b.fIns : Nat) : Int) ≤ s.1 ∧ s.1 ≤ 562949953421312) ?_ FUEL b.fIns.length _ ⟨0, by omega, by omega, rfl, by simp, by simp only; omega⟩ (by unfold FUEL; omega)
        rintro m ⟨v, k'⟩ ⟨k, hk, rfl, hk', hv0, hv1⟩
        simp only at hk' hv0 hv1
        subst hk'
        unfold F12_2_b
        simp only [idx_some hb, Option.bind_some]
        by_cases hkl : k < b.fIns.length
        · have hx : b.fIns[k]? = some b.fIns[k] := List.getElem?_eq_getElem hkl
          generalize b.fIns[k] = x at hx
          have hxa := hs.args b hmem x (List.mem_of_getElem? hx)
          unfold Sz at hxa
          simp only [lt_dec hkl, if_true, idx_some hx, Option.bind_some]
          by_cases hv : v ≤ 2000
          · rw [decide_eq_true hv]
            have hw2 : IntKind.i64.wrap (v + ((List.length x.fArgs : Nat) : Int)) = v + ((List.length x.fArgs : Nat) : Int) := wrap64_in (by omega) (by omega)
            refine ⟨_, rfl, b.fIns.length - (k + 1), by omega, k + 1, by omega, rfl, wnat (by omega), ?_, ?_⟩
            · simp only [hw2]; omega
            · simp only [hw2]; omega
          · rw [decide_eq_false hv]
            exact ⟨_, rfl, v, rfl, hv0⟩
        · have : k = b.fIns.length := by omega
          subst this
          simp only [ge_dec, Bool.false_eq_true, if_false]
          exact ⟨_, rfl, v, rfl, hv0⟩
      obtain ⟨o, ho, v, rfl, hv⟩ := hin
      rw [ho, Option.bind_some]
      by_cases hv2 : v > 2000
      · exact ⟨.ret true, by simp only [decide_eq_true hv2, if_true], .inl rfl⟩
      · refine ⟨.next (v, IntKind.i64.wrap ((i : Int) + 1)), by simp only [decide_eq_false hv2, Bool.false_eq_true, if_false], g.fBlocks.length - (i + 1), by omega, i + 1, by omega, rfl, wnat (by omega), by simp only; omega, by simp only; omega, fun j c hj hc => ?_⟩
        by_cases hji : j = i
        · subst hji; rw [hb] at hc; cases hc; omega
        · exact hall j c (by omega) hc
    · have : i = g.fBlocks.length := by omega
      subst this
      simp only [ge_dec, Bool.false_eq_true, if_false]
      refine ⟨_, rfl, .inr ⟨rfl, fun b hb => ?_⟩⟩
      obtain ⟨j, hj, rfl⟩ := List.mem_iff_getElem.mp hb
      exact hall j _ hj (List.getElem?_eq_getElem hj)
  obtain ⟨o, ho, h | ⟨h, hall⟩⟩ := key
  · rw [ho, h]; exact ⟨true, rfl, fun h => by cases h⟩
  · rw [ho, h]; exact ⟨false, rfl, fun _ => ⟨by omega, hall⟩⟩
theorem F8_is (p : List T_Graph) (hp : Sz p) (hs : ∀ g ∈ p, SzG g) : ∃ b, F8 p = some b ∧ (b = false → ∀ g ∈ p, Small g) := by
  unfold F8
  by_cases h1 : ((List.length p : Nat) : Int) > 100
  · exact ⟨true, by rw [decide_eq_true h1]; rfl, fun h => by cases h⟩
  rw [decide_eq_false h1]
  simp only [Bool.false_eq_true, if_false]
  have key : ∃ o, iter (fun s : Int => F8_1_b p s) FUEL (0 : Int) = some o ∧ (o = .ret true ∨ o = .go () ∧ ∀ g ∈ p, Small g) := by
    refine iter_ok (I := fun m s => ∃ i : Nat, i ≤ p.length ∧ m = p.length - i ∧ s = (i : Int) ∧ ∀ (j : Nat) g, j < i → p[j]? = some g → Small g) ?_ FUEL p.length _ ⟨0, by omega, by omega, rfl, fun j b h => by omega⟩ (by unfold FUEL; omega)
    rintro m _ ⟨i, hi, rfl, rfl, hall⟩
    unfold F8_1_b
    by_cases hil : i < p.length
    · have hb : p[i]? = some p[i] := List.getElem?_eq_getElem hil
      generalize p[i] = g at hb
      obtain ⟨c, hc1, hc2⟩ := F12_is g (hs g (List.mem_of_getElem? hb))
      simp only [lt_dec hil, if_true, idx_some hb, Option.bind_some, hc1]
      cases c
      · refine ⟨_, rfl, p.length - (i + 1), by omega, i + 1, by omega, rfl, wnat (by omega), fun j c hj hc => ?_⟩
        by_cases hji : j = i
        · subst hji; rw [hb] at hc; cases hc; exact hc2 rfl
        · exact hall j c (by omega) hc
      · exact ⟨_, rfl, .inl rfl⟩
    · have : i = p.length := by omega
      subst this
      simp only [ge_dec, Bool.false_eq_true, if_false]
      refine ⟨_, rfl, .inr ⟨rfl, fun b hb => ?_⟩⟩
      obtain ⟨j, hj, rfl⟩ := List.mem_iff_getElem.mp hb
      exact hall j _ hj (List.getElem?_eq_getElem hj)
  obtain ⟨o, ho, h | ⟨h, hall⟩⟩ := key
  · rw [ho, h]; exact ⟨true, rfl, fun h => by cases h⟩
  · rw [ho, h]; exact ⟨false, rfl, fun _ => hall⟩
end Go.Eng.Gra
