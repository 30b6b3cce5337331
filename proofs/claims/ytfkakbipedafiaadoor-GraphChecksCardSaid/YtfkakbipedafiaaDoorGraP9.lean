/- Check and the reference's agree; the law (no program in sight; conditions: those stated). -/
import Derived.Test.YtfkakbipedafiaaDoorGraP8
import Derived.Test.YtfkakbipedafiaaDoorGraP3
import Derived.Test.YtfkakbipedafiaaDoorGabF
namespace Go.Eng.Gra
open Go Go.Eng
set_option linter.unusedSectionVars false
set_option linter.unusedVariables false
set_option linter.unusedSimpArgs false

def alB (g : T_Graph) (x : T_Ins) : Bool := match F84 g x with | some c => c | none => false
def tyB (p : List T_Graph) (g : T_Graph) (x : T_Ins) : Bool := match F31 p g x with | some c => c.2 | none => false
def caB (p : List T_Graph) (g : T_Graph) (x : T_Ins) : Bool := match F63 p g x with | some c => c | none => false
theorem ty_fact (p : List T_Graph) (g : T_Graph) (x : T_Ins) (hx : Sz x.fArgs) (hb0 : 0 ≤ x.fBits) (hb1 : x.fBits < 18446744073709551616) (hp : ∀ f ∈ p, Sz f.fParams) :
    F84 g x = some (alB g x) ∧ (∃ t, F31 p g x = some (t, tyB p g x)) ∧ tyB p g x = (alB g x && (!decide (x.fKind = 9) || caB p g x)) ∧ (alB g x = true → x.fKind = 9 → F63 p g x = some (caB p g x)) := by
  obtain ⟨c, b, t, h1, h2, h3, h4⟩ := type_eq p g x hx hb0 hb1 hp
  have e1 : alB g x = c := by unfold alB; rw [h1]
  have e2 : tyB p g x = b := by unfold tyB; rw [h2]
  rw [e1, e2]
  refine ⟨h1, ⟨t, h2⟩, ?_, fun hc hk => ?_⟩
  · by_cases hk : x.fKind = 9
    · obtain ⟨h5, h6⟩ := h4 hk
      cases c
      · rw [h5 rfl]; rfl
      · have e3 : caB p g x = b := by unfold caB; rw [h6 rfl]
        rw [e3]; simp [hk]
    · rw [h3 hk]; simp [hk]
  · have h6 := (h4 hk).2 hc
    have e3 : caB p g x = b := by unfold caB; rw [h6]
    rw [h6, e3]

section
variable (p : List T_Graph) (g : T_Graph)
abbrev AH : List (List Int) := aheadV g.fBlocks
def rl (i : Nat) : Nat := ((AH g).getD i []).length
theorem AH_get {i : Nat} (h : i < g.fBlocks.length) : ∃ r, (AH g)[i]? = some r ∧ r.length = rl g i := by
  have hl : i < (AH g).length := by rw [show (AH g).length = g.fBlocks.length from aheadS_len _ _]; exact h
  exact ⟨(AH g)[i], List.getElem?_eq_getElem hl, by unfold rl; rw [List.getD_eq_getElem?_getD, List.getElem?_eq_getElem hl]; rfl⟩
def qP (i : Nat) (b : T_Block) : Bool := endV g b.fTerm && (jn false (rl g i) 0 [] b.fIns && (!(decide (i = 0) && phi0 b) && b.fIns.all (tyB p g)))
def qA (i : Nat) (b : T_Block) : Bool := endV g b.fTerm && b.fIns.all (alB g)
def qJ (i : Nat) (b : T_Block) : Bool := jn (decide (i = 0)) (rl g i) 0 [] b.fIns
def qC (i : Nat) (b : T_Block) : Bool := b.fIns.all fun x => !decide (x.fKind = 9) || caB p g x
variable {p g}

theorem F32_is (hs : SzG g) (hm : Small g) (hp : ∀ f ∈ p, Sz f.fParams) : F32 p g = some (hd g && allI (qP p g) 0 g.fBlocks) := by
  unfold F32
  rw [F59_is g hs, Option.bind_some]
  refine ite_nn' fun _ => ?_
  have hbl := hm.blocks
  have e13 : F13 g = some (AH g) := by unfold F13; rw [if_pos (by omega)]
  rw [e13, Option.bind_some]
  have e : iter (fun s : (Int) => F32_1_b p g (AH g) s) FUEL (0 : Int) = some (if allI (qP p g) 0 g.fBlocks = true then .go () else .ret false) := by
    refine loop_all (qP p g) (by omega) (fun i b h => ?_) ?_
    · have hil := lt_of h
      have hmem := List.mem_of_getElem? h
      have hbi := hm.ins b hmem
      obtain ⟨r, hr, hrl⟩ := AH_get g hil
      have ej : F32_j1 p g (AH g) (i : Int) b = some (if b.fIns.all (tyB p g) = true then .next ((i + 1 : Nat) : Int) else .ret false) := by
        unfold F32_j1
        have : iter (fun s : (Int) => F32_2_b p g (AH g) (i : Int) b s) FUEL (0 : Int) = some (if b.fIns.all (tyB p g) = true then .go () else .ret false) := by
          rw [← allI_const (tyB p g) 0]
          refine loop_all (fun _ x => tyB p g x) (by omega) (fun k x hx => ?_) ?_
          · have hkl := lt_of hx
            have hxm := List.mem_of_getElem? hx
            obtain ⟨_, ⟨t, h31⟩, _, _⟩ := ty_fact p g x (hs.args b hmem x hxm) (hs.bits b hmem x hxm).1 (hs.bits b hmem x hxm).2 hp
            simp only [F32_2_b, lt_dec hkl, if_true, idx_some hx, Option.bind_some, h31, wnat (show k ≤ 4611686018427387904 by omega)]
            cases tyB p g x <;> rfl
          · simp only [F32_2_b, ge_dec, Bool.false_eq_true, if_false]
        rw [this, wnat (show i ≤ 4611686018427387904 by omega)]
        cases b.fIns.all (tyB p g) <;> rfl
      rw [show qP p g i b = (endV g b.fTerm && (jn false (rl g i) 0 [] b.fIns && (!(decide (i = 0) && phi0 b) && b.fIns.all (tyB p g)))) from rfl]
      simp only [F32_1_b, lt_dec hil, if_true, idx_some h, Option.bind_some, F60_is, idx_some hr, hrl, F61_is b (rl g i) (by omega), ej]
      generalize endV g b.fTerm = A
      generalize jn false (rl g i) 0 [] b.fIns = B
      generalize hC : b.fIns.all (tyB p g) = C
      cases A
      · rfl
      cases B
      · rfl
      simp only [if_true, Bool.true_and]
      by_cases hi0 : i = 0
      · subst hi0
        simp only [Int.natCast_zero, beq_self_eq_true, if_true, decide_true, Bool.true_and]
        cases hins : b.fIns with
        | nil => simp [phi0, hins]
        | cons y l =>
          have hpos : decide (((List.length (y :: l) : Nat) : Int) > 0) = true := decide_eq_true (by simp)
          rw [hpos]
          simp only [if_true, show idx (y :: l) (0 : Int) = some y from rfl, Option.bind_some, phi0, hins]
          by_cases hy : y.fKind = 1
          · have : (y.fKind == 1) = true := by simp [hy]
            rw [this, decide_eq_true hy]; rfl
          · have : (y.fKind == 1) = false := beq_f hy
            rw [this, decide_eq_false hy]; rfl
      · have : ((i : Int) == 0) = false := beq_f (by omega)
        rw [this, decide_eq_false hi0]; rfl
    · simp only [F32_1_b, ge_dec, Bool.false_eq_true, if_false]
  rw [e]
  cases allI (qP p g) 0 g.fBlocks <;> rfl

theorem F85_is (hs : SzG g) (hm : Small g) : F85 g = some (allI (qJ g) 0 g.fBlocks) := by
  unfold F85
  have hbl := hm.blocks
  have e20 : F20 g = some (AH g) := by unfold F20; rw [if_pos (by omega)]
  rw [e20, Option.bind_some]
  have e : iter (fun s : (Int) => F85_1_b g (AH g) s) FUEL (0 : Int) = some (if allI (qJ g) 0 g.fBlocks = true then .go () else .ret false) := by
    refine loop_all (qJ g) (by omega) (fun i b h => ?_) ?_
    · have hil := lt_of h
      have hbi := hm.ins b (List.mem_of_getElem? h)
      obtain ⟨r, hr, hrl⟩ := AH_get g hil
      rw [show qJ g i b = jn (decide (i = 0)) (rl g i) 0 [] b.fIns from rfl]
      simp only [F85_1_b, lt_dec hil, if_true, idx_some h, Option.bind_some, F85_in g (AH g) i b r hr (by omega), hrl, wnat (show i ≤ 4611686018427387904 by omega)]
      cases jn (decide (i = 0)) (rl g i) 0 [] b.fIns <;> rfl
    · simp only [F85_1_b, ge_dec, Bool.false_eq_true, if_false]
  rw [e]
  cases allI (qJ g) 0 g.fBlocks <;> rfl
theorem F62_is (hs : SzG g) (hm : Small g) (hp : ∀ f ∈ p, Sz f.fParams) : F62 g = some (hd g && (allI (qA g) 0 g.fBlocks && allI (qJ g) 0 g.fBlocks)) := by
  unfold F62
  rw [F82_is g hs, Option.bind_some]
  refine ite_nn' fun _ => ?_
  have hbl := hm.blocks
  have e : iter (fun s : (Int) => F62_1_b g s) FUEL (0 : Int) = some (if allI (qA g) 0 g.fBlocks = true then .go () else .ret false) := by
    refine loop_all (qA g) (by omega) (fun i b h => ?_) ?_
    · have hil := lt_of h
      have hmem := List.mem_of_getElem? h
      have hbi := hm.ins b hmem
      have ei : iter (fun s : (Int) => F62_2_b g (i : Int) s) FUEL (0 : Int) = some (if b.fIns.all (alB g) = true then .go () else .ret false) := by
        rw [← allI_const (alB g) 0]
        refine loop_all (fun _ x => alB g x) (by omega) (fun k x hx => ?_) ?_
        · have hkl := lt_of hx
          have hxm := List.mem_of_getElem? hx
          obtain ⟨h84, _⟩ := ty_fact p g x (hs.args b hmem x hxm) (hs.bits b hmem x hxm).1 (hs.bits b hmem x hxm).2 hp
          simp only [F62_2_b, lt_dec hkl, if_true, idx_some h, idx_some hx, Option.bind_some, h84, wnat (show k ≤ 4611686018427387904 by omega)]
          cases alB g x <;> rfl
        · simp only [F62_2_b, idx_some h, Option.bind_some, ge_dec, Bool.false_eq_true, if_false]
      rw [show qA g i b = (endV g b.fTerm && b.fIns.all (alB g)) from rfl]
      simp only [F62_1_b, lt_dec hil, if_true, idx_some h, Option.bind_some, F83_is, ei, wnat (show i ≤ 4611686018427387904 by omega)]
      cases endV g b.fTerm <;> cases b.fIns.all (alB g) <;> rfl
    · simp only [F62_1_b, ge_dec, Bool.false_eq_true, if_false]
  rw [e]
  refine loop_tt ?_
  rw [F85_is hs hm]; rfl
theorem allI_get {α : Type} {q : Nat → α → Bool} : ∀ (l : List α) (i : Nat), allI q i l = true → ∀ j a, l[j]? = some a → q (i + j) a = true
  | [], i, h, j, a, ha => by simp at ha
  | x :: l, i, h, j, a, ha => by
    rw [allI, Bool.and_eq_true] at h
    cases j with
    | zero => simp at ha; subst ha; exact h.1
    | succ j =>
      have := allI_get l (i + 1) h.2 j a (by simpa using ha)
      rwa [show i + (j + 1) = i + 1 + j by omega]
theorem F33_is (hs : SzG g) (hm : Small g) (hp : ∀ f ∈ p, Sz f.fParams) : F33 p g = some ((hd g && (allI (qA g) 0 g.fBlocks && allI (qJ g) 0 g.fBlocks)) && allI (qC p g) 0 g.fBlocks) := by
  unfold F33
  rw [F62_is hs hm hp, Option.bind_some]
  refine ite_nn' fun hc => ?_
  simp only [Bool.and_eq_true] at hc
  have hbl := hm.blocks
  have e : iter (fun s : (Int) => F33_1_b p g s) FUEL (0 : Int) = some (if allI (qC p g) 0 g.fBlocks = true then .go () else .ret false) := by
    refine loop_all (qC p g) (by omega) (fun i b h => ?_) ?_
    · have hil := lt_of h
      have hmem := List.mem_of_getElem? h
      have hbi := hm.ins b hmem
      have hal : b.fIns.all (alB g) = true := by
        have := allI_get g.fBlocks 0 hc.2.1 i b h
        unfold qA at this; rw [Bool.and_eq_true] at this; exact this.2
      have ei : iter (fun s : (Int) => F33_2_b p g (i : Int) s) FUEL (0 : Int) = some (if (b.fIns.all fun x => !decide (x.fKind = 9) || caB p g x) = true then .go () else .ret false) := by
        rw [← allI_const (fun x : T_Ins => !decide (x.fKind = 9) || caB p g x) 0]
        refine loop_all (l := b.fIns) (fun _ x => !decide (x.fKind = 9) || caB p g x) (by omega) (fun k x hx => ?_) ?_
        · have hkl := lt_of hx
          have hxm := List.mem_of_getElem? hx
          obtain ⟨_, _, _, h63⟩ := ty_fact p g x (hs.args b hmem x hxm) (hs.bits b hmem x hxm).1 (hs.bits b hmem x hxm).2 hp
          have h63 := h63 (List.all_eq_true.1 hal x hxm)
          simp only [F33_2_b, F33_j1, lt_dec hkl, if_true, idx_some h, idx_some hx, Option.bind_some, wnat (show k ≤ 4611686018427387904 by omega)]
          by_cases hk9 : x.fKind = 9
          · have q : (x.fKind == 9) = true := by simp [hk9]
            rw [q, h63 hk9, decide_eq_true hk9]
            simp only [if_true, Option.bind_some, Bool.not_true, Bool.false_or]
            cases caB p g x <;> rfl
          · have q : (x.fKind == 9) = false := beq_f hk9
            rw [q, decide_eq_false hk9]; rfl
        · simp only [F33_2_b, idx_some h, Option.bind_some, ge_dec, Bool.false_eq_true, if_false]
      rw [show qC p g i b = (b.fIns.all fun x => !decide (x.fKind = 9) || caB p g x) from rfl]
      simp only [F33_1_b, lt_dec hil, if_true, ei, Option.bind_some, wnat (show i ≤ 4611686018427387904 by omega)]
      cases (b.fIns.all fun x => !decide (x.fKind = 9) || caB p g x) <;> rfl
    · simp only [F33_1_b, ge_dec, Bool.false_eq_true, if_false]
  rw [e]
  cases allI (qC p g) 0 g.fBlocks <;> rfl
theorem all_and' {α : Type} (q q' : α → Bool) (l : List α) : (l.all fun x => q x && q' x) = (l.all q && l.all q') := by
  induction l with
  | nil => rfl
  | cons x l ih => simp only [List.all_cons, ih]; cases q x <;> cases q' x <;> simp
theorem right_same (hs : SzG g) (hm : Small g) (hp : ∀ f ∈ p, Sz f.fParams) : F33 p g = F32 p g := by
  rw [F32_is hs hm hp, F33_is hs hm hp]
  have e : allI (qP p g) 0 g.fBlocks = allI (fun i b => (qA g i b && qJ g i b) && qC p g i b) 0 g.fBlocks := by
    refine allI_congr 0 _ fun i b h => ?_
    have hmem := List.mem_of_getElem? h
    rw [Nat.zero_add]
    unfold qP qA qJ qC
    have h1 : b.fIns.all (tyB p g) = (b.fIns.all (alB g) && b.fIns.all fun x => !decide (x.fKind = 9) || caB p g x) := by
      rw [← all_and']
      rw [Bool.eq_iff_iff, List.all_eq_true, List.all_eq_true]
      refine forall_congr' fun x => forall_congr' fun hx => ?_
      rw [(ty_fact p g x (hs.args b hmem x hx) (hs.bits b hmem x hx).1 (hs.bits b hmem x hx).2 hp).2.2.1]
    have h2 : jn (decide (i = 0)) (rl g i) 0 [] b.fIns = (jn false (rl g i) 0 [] b.fIns && !(decide (i = 0) && phi0 b)) := by
      by_cases h0 : i = 0
      · rw [decide_eq_true h0, jn_zero]; simp
      · rw [decide_eq_false h0]; simp
    rw [h1, h2]
    cases endV g b.fTerm <;> cases jn false (rl g i) 0 [] b.fIns <;> cases (decide (i = 0) && phi0 b) <;> cases b.fIns.all (alB g) <;> cases (b.fIns.all fun x => !decide (x.fKind = 9) || caB p g x) <;> rfl
  rw [e, allI_and, allI_and]
  cases hd g <;> cases allI (qA g) 0 g.fBlocks <;> cases allI (qJ g) 0 g.fBlocks <;> cases allI (qC p g) 0 g.fBlocks <;> rfl
end
def riB (p : List T_Graph) (g : T_Graph) : Bool := match F32 p g with | some b => b | none => false
theorem check_same (p : List T_Graph) (hl : Sz p) (hs : ∀ g ∈ p, SzG g) (hm : ∀ g ∈ p, Small g) : ∃ r, F10 p = some r ∧ F11 p = some r := by
  have hp : ∀ f ∈ p, Sz f.fParams := fun f hf => (hs f hf).params
  unfold Sz at hl
  have h32 : ∀ g ∈ p, F32 p g = some (riB p g) := by
    intro g hg
    have := F32_is (hs g hg) (hm g hg) hp
    unfold riB; rw [this]
  have h33 : ∀ g ∈ p, F33 p g = some (riB p g) := fun g hg => by rw [right_same (hs g hg) (hm g hg) hp, h32 g hg]
  unfold F10 F11
  cases decide (((List.length p : Nat) : Int) > 64)
  case true => exact ⟨_, rfl, rfl⟩
  simp only [Bool.false_eq_true, if_false]
  have e1 : iter (fun s : (Int) => F10_1_b p s) FUEL (0 : Int) = some (outF () (first (fun i g => if riB p g then none else some ((4 : Int), (i : Int))) 0 p)) := by
    refine loop_first (l := p) (fun i g => if riB p g then none else some ((4 : Int), (i : Int))) (by omega) (fun i a h => ?_) ?_
    · have := lt_of h
      simp only [F10_1_b, lt_dec this, if_true, idx_some h, Option.bind_some, h32 a (List.mem_of_getElem? h), wnat (show i ≤ 4611686018427387904 by omega)]
      cases riB p a <;> rfl
    · simp only [F10_1_b, ge_dec, Bool.false_eq_true, if_false]
  have e2 : iter (fun s : (Int) => F11_1_b p s) FUEL (0 : Int) = some (outF () (first (fun i g => if riB p g then none else some ((4 : Int), (i : Int))) 0 p)) := by
    refine loop_first (l := p) (fun i g => if riB p g then none else some ((4 : Int), (i : Int))) (by omega) (fun i a h => ?_) ?_
    · have := lt_of h
      simp only [F11_1_b, lt_dec this, if_true, idx_some h, Option.bind_some, h33 a (List.mem_of_getElem? h), wnat (show i ≤ 4611686018427387904 by omega)]
      cases riB p a <;> rfl
    · simp only [F11_1_b, ge_dec, Bool.false_eq_true, if_false]
  rw [e1, e2]
  cases first (fun i g => if riB p g then none else some ((4 : Int), (i : Int))) 0 p with
  | none => exact ⟨_, rfl, rfl⟩
  | some r => exact ⟨_, rfl, rfl⟩
theorem checks (p : List T_Graph) (hl : Sz p) (hs : ∀ g ∈ p, SzG g) : F3 p = some true := by
  obtain ⟨b, hb, hsm⟩ := F8_is p hl hs
  unfold F3
  rw [hb, Option.bind_some, awake9]
  cases b
  · obtain ⟨r, h1, h2⟩ := check_same p hl hs (hsm rfl)
    rw [h1, h2]
    simp only [Bool.false_eq_true, if_false, Option.bind_some, beq_self_eq_true, if_true]
  · rfl
end Go.Eng.Gra
