/- Functions of this seat, run on unknown values by the rules of the small machine (no condition beyond those stated). -/
import Derived.Test.YtfkakbipedafiaaDoorGtrF
import Derived.Test.YtfkakbipedafiaaDoorGtrOUp
namespace Go.Eng.Gra
open Go Go.Eng
set_option linter.unusedSectionVars false
set_option linter.unusedVariables false
set_option linter.unusedSimpArgs false
abbrev Sz {α : Type} (l : List α) : Prop := l.length ≤ 140737488355328
theorem lt_dec {n : Nat} {i : Nat} (h : i < n) : decide ((i : Int) < (n : Int)) = true := decide_eq_true (by omega)
theorem ge_dec (n : Nat) : decide ((n : Int) < (n : Int)) = false := decide_eq_false (by omega)
theorem lt_of {α : Type} {l : List α} {i : Nat} {a : α} (h : l[i]? = some a) : i < l.length := (List.getElem?_eq_some_iff.mp h).1
structure SzG (g : T_Graph) : Prop where
  params : Sz g.fParams
  vars : Sz g.fVars
  arrays : Sz g.fArrays
  blocks : Sz g.fBlocks
  ins : ∀ b ∈ g.fBlocks,Sz b.fIns
  args : ∀ b ∈ g.fBlocks,∀ x ∈ b.fIns,Sz x.fArgs
  bits : ∀ b ∈ g.fBlocks,∀ x ∈ b.fIns,0 ≤ x.fBits ∧ x.fBits < 18446744073709551616
structure Small (g : T_Graph) : Prop where
  blocks : g.fBlocks.length ≤ 400
  ins : ∀ b ∈ g.fBlocks,b.fIns.length ≤ 2000
theorem F12_is (g : T_Graph) (hs : SzG g) : ∃ b,F12 g = some b ∧ (b = false → Small g) := by
  unfold F12
  by_cases h1 : ((List.length g.fBlocks : Nat) : Int) > 400
  · exact ⟨true,by rw [decide_eq_true h1]; rfl,fun h => by cases h⟩
  rw [decide_eq_false h1];simp only [Bool.false_eq_true,if_false];cases decide (((List.length g.fVars : Nat) : Int) > 2000)
  case true => exact ⟨true,rfl,fun h => by cases h⟩
  cases decide (((List.length g.fArrays : Nat) : Int) > 2000)
  case true => exact ⟨true,rfl,fun h => by cases h⟩
  cases decide (((List.length g.fParams : Nat) : Int) > 2000)
  case true => exact ⟨true,rfl,fun h => by cases h⟩
  simp only [Bool.false_eq_true,if_false];have key : ∃ o,iter (fun s : (Int × Int) => F12_1_b g s.1 s.2) FUEL ((0 : Int),(0 : Int)) = some o ∧ (o = .ret true ∨ o = .go () ∧ ∀ b ∈ g.fBlocks,b.fIns.length ≤ 2000) := by
    refine iter_ok (I := fun m s => ∃ i : Nat,i ≤ g.fBlocks.length ∧ m = g.fBlocks.length - i ∧ s.2 = (i : Int) ∧ 0 ≤ s.1 ∧ s.1 ≤ 2000 ∧ ∀ (j : Nat) b,j < i → g.fBlocks[j]? = some b → b.fIns.length ≤ 2000) ?_ FUEL g.fBlocks.length _ ⟨0,by omega,by omega,rfl,by decide,by decide,fun j b h => by omega⟩ (by unfold FUEL; omega);rintro m ⟨n,i'⟩ ⟨i,hi,rfl,hi',hn0,hn1,hall⟩;simp only at hi' hn0 hn1;subst hi';unfold F12_1_b
    by_cases hil : i < g.fBlocks.length
    · have hb : g.fBlocks[i]? = some g.fBlocks[i] := List.getElem?_eq_getElem hil
      generalize g.fBlocks[i] = b at hb
      have hmem : b ∈ g.fBlocks := List.mem_of_getElem? hb;have hbi := hs.ins b hmem;unfold Sz at hbi;have hw : IntKind.i64.wrap (n + ((List.length b.fIns : Nat) : Int)) = n + ((List.length b.fIns : Nat) : Int) := wrap64_in (by omega) (by omega);simp only [lt_dec hil,if_true,idx_some hb,Option.bind_some,hw];have hin : ∃ o,iter (fun s : (Int × Int) => F12_2_b g (i : Int) s.1 s.2) FUEL (n + ((List.length b.fIns : Nat) : Int),(0 : Int)) = some o ∧ ∃ v,o = .go v ∧ n + ((List.length b.fIns : Nat) : Int) ≤ v := by
        refine iter_ok (I := fun m s => ∃ k : Nat,k ≤ b.fIns.length ∧ m = b.fIns.length - k ∧ s.2 = (k : Int) ∧ n + ((List.length b.fIns : Nat) : Int) ≤ s.1 ∧ s.1 ≤ 562949953421312) ?_ FUEL b.fIns.length _ ⟨0,by omega,by omega,rfl,by simp,by simp only; omega⟩ (by unfold FUEL; omega);rintro m ⟨v,k'⟩ ⟨k,hk,rfl,hk',hv0,hv1⟩;simp only at hk' hv0 hv1;subst hk';unfold F12_2_b;simp only [idx_some hb,Option.bind_some]
        by_cases hkl : k < b.fIns.length
        · have hx : b.fIns[k]? = some b.fIns[k] := List.getElem?_eq_getElem hkl
          generalize b.fIns[k] = x at hx
          have hxa := hs.args b hmem x (List.mem_of_getElem? hx);unfold Sz at hxa;simp only [lt_dec hkl,if_true,idx_some hx,Option.bind_some]
          by_cases hv : v ≤ 2000
          · rw [decide_eq_true hv];have hw2 : IntKind.i64.wrap (v + ((List.length x.fArgs : Nat) : Int)) = v + ((List.length x.fArgs : Nat) : Int) := wrap64_in (by omega) (by omega);refine ⟨_,rfl,b.fIns.length - (k + 1),by omega,k + 1,by omega,rfl,wnat (by omega),?_,?_⟩
            · simp only [hw2]; omega
            · simp only [hw2]; omega
          · rw [decide_eq_false hv];exact ⟨_,rfl,v,rfl,hv0⟩
        · have : k = b.fIns.length := by omega
          subst this;simp only [ge_dec,Bool.false_eq_true,if_false];exact ⟨_,rfl,v,rfl,hv0⟩
      obtain ⟨o,ho,v,rfl,hv⟩ := hin;rw [ho,Option.bind_some]
      by_cases hv2 : v > 2000
      · exact ⟨.ret true,by simp only [decide_eq_true hv2,if_true],.inl rfl⟩
      · refine ⟨.next (v,IntKind.i64.wrap ((i : Int) + 1)),by simp only [decide_eq_false hv2,Bool.false_eq_true,if_false],g.fBlocks.length - (i + 1),by omega,i + 1,by omega,rfl,wnat (by omega),by simp only; omega,by simp only; omega,fun j c hj hc => ?_⟩
        by_cases hji : j = i
        · subst hji; rw [hb] at hc; cases hc; omega
        · exact hall j c (by omega) hc
    · have : i = g.fBlocks.length := by omega
      subst this;simp only [ge_dec,Bool.false_eq_true,if_false];refine ⟨_,rfl,.inr ⟨rfl,fun b hb => ?_⟩⟩;obtain ⟨j,hj,rfl⟩ := List.mem_iff_getElem.mp hb;exact hall j _ hj (List.getElem?_eq_getElem hj)
  obtain ⟨o,ho,h | ⟨h,hall⟩⟩ := key
  · rw [ho,h]; exact ⟨true,rfl,fun h => by cases h⟩
  · rw [ho,h]; exact ⟨false,rfl,fun _ => ⟨by omega,hall⟩⟩
theorem awake9 : F9 = some true := by kernel_rfl
end Go.Eng.Gra
namespace Go.Eng.Gra
open Go Go.Eng
set_option linter.unusedSectionVars false
set_option linter.unusedVariables false
set_option linter.unusedSimpArgs false
def inb (k : Int) (n : Nat) : Bool := decide (0 ≤ k ∧ k < (n : Int))
theorem in34' (k : Int) (n : Nat) : F34 k (n : Int) = some (inb k n) := in34 k n
def tv (l : List Int) (v : Int) : Int := l.getD v.toNat 0
theorem idx_tv {l : List Int} {v : Int} (h : inb v l.length = true) : idx l v = some (tv l v) := by
  have h := of_decide_eq_true h;have hv : v.toNat < l.length := by omega
  unfold idx;rw [if_pos h.1]
  simp [tv,List.getD,hv]
def ty (t : Int) : Bool := decide (1 ≤ t) && decide (t ≤ 5)
theorem F78_is (t : Int) : F78 t = some (ty t) := by unfold F78 ty; by_cases h : 1 ≤ t <;> simp [h]
theorem F65_is (l : List Int) (x : Int) (hl : Sz l) : ∃ r,F65 l x = some r ∧ decide (r ≥ 0) = l.any (x == ·) := by
  unfold F65;refine loop_find (x == ·) (by unfold Sz at hl; omega) (fun i a h => ?_) ?_
  · have := lt_of h;unfold Sz at hl;simp only [F65_1_b,lt_dec this,if_true,idx_some h,Option.bind_some,wnat (show i ≤ 4611686018427387904 by omega)];cases x == a <;> rfl
  · simp only [F65_1_b,ge_dec,Bool.false_eq_true,if_false]
theorem F79_is (l : List Int) (x : Int) (hl : Sz l) : F79 l x = some (l.any (x == ·)) := by
  obtain ⟨r,h1,h2⟩ := F65_is l x hl;unfold F79; rw [h1,Option.bind_some,h2]
theorem F71_is (l : List Int) (g : T_Graph) (hl : Sz l) : F71 l g = some (!(l.all fun v => inb v g.fVars.length)) := by
  have key : ∃ r,F89 l g = some r ∧ decide (r ≥ 0) = l.any fun v => !inb v g.fVars.length := by
    unfold F89;refine loop_find (fun v => !inb v g.fVars.length) (by unfold Sz at hl; omega) (fun i a h => ?_) ?_
    · have := lt_of h;unfold Sz at hl;simp only [F89_1_b,F72,lt_dec this,if_true,idx_some h,Option.bind_some,in34',wnat (show i ≤ 4611686018427387904 by omega)];cases inb a g.fVars.length <;> rfl
    · simp only [F89_1_b,ge_dec,Bool.false_eq_true,if_false]
  obtain ⟨r,h1,h2⟩ := key;unfold F71; rw [h1,Option.bind_some,h2]
  congr 1
  rw [List.not_all_eq_any_not]
theorem F53_is (l : List Int) (t : Int) (hl : Sz l) : F53 l t = some (!(l.all fun a => a == t)) := by
  have key : ∃ r,F73 l t = some r ∧ decide (r ≥ 0) = l.any fun a => a != t := by
    unfold F73;refine loop_find (fun a => a != t) (by unfold Sz at hl; omega) (fun i a h => ?_) ?_
    · have := lt_of h;unfold Sz at hl;simp only [F73_1_b,F54,lt_dec this,if_true,idx_some h,Option.bind_some,wnat (show i ≤ 4611686018427387904 by omega)];cases a != t <;> rfl
    · simp only [F73_1_b,ge_dec,Bool.false_eq_true,if_false]
  obtain ⟨r,h1,h2⟩ := key;unfold F53; rw [h1,Option.bind_some,h2]
  congr 1
  rw [List.not_all_eq_any_not]; rfl
theorem F77_is (a b : List Int) (ha : Sz a) : F77 a b = some (decide (a = b)) := by
  unfold F77
  by_cases hl : a.length = b.length
  · have e : (((List.length a : Nat) : Int) != ((List.length b : Nat) : Int)) = false := by rw [hl]; simp
    rw [e]; simp only [Bool.false_eq_true,if_false];rw [loop_all (l := a) (a0 := ()) (r0 := false) (fun i x => decide (b[i]? = some x)) (by unfold Sz at ha; omega) (fun i x h => ?_) ?_]
    · have key : ∀ (l m : List Int) (i : Nat),l.length = m.length → m = b.drop i → allI (fun i x => decide (b[i]? = some x)) i l = decide (l = m) := by
        intro l
        induction l with
        | nil => intro m i h1 h2; cases m with
          | nil => rfl
          | cons y m => simp at h1
        | cons x l ih =>
          intro m i h1 h2;cases m with
          | nil => simp at h1
          | cons y m =>
            have h3 : b[i]? = some y := by
              have := congrArg (·[0]?) h2
              simpa using this.symm
            have h4 : m = b.drop (i + 1) := by
              have := congrArg (·.drop 1) h2
              simpa [List.drop_drop] using this
            rw [allI,ih m (i + 1) (by simpa using h1) h4,h3]
            by_cases hxy : y = x
            · subst hxy; simp
            · have : ¬ x = y := fun h => hxy h.symm
              simp [hxy,this]
      rw [key a b 0 hl rfl]
      by_cases hab : a = b <;> simp [hab]
    · simp only [F77_1_b,ge_dec,Bool.false_eq_true,if_false]
    · have := lt_of h;unfold Sz at ha;have hb : b[i]? = some b[i] := List.getElem?_eq_getElem (by omega);simp only [F77_1_b,lt_dec this,if_true,idx_some h,idx_some hb,Option.bind_some,wnat (show i ≤ 4611686018427387904 by omega)];rw [hb]
      by_cases hx : x = b[i]
      · have h2 : (x != b[i]) = false := by simp [hx]
        have h3 : decide (some b[i] = some x) = true := by simp [hx]
        rw [h2,h3]; rfl
      · have h2 : (x != b[i]) = true := by simp [hx]
        have h3 : decide (some b[i] = some x) = false := decide_eq_false (fun h => hx (Option.some.inj h).symm);rw [h2,h3]; rfl
  · have e : (((List.length a : Nat) : Int) != ((List.length b : Nat) : Int)) = true := by simp; omega
    rw [e]; simp only [if_true];have : a ≠ b := fun h => hl (by rw [h])
    simp [this]
theorem F52_is (g : T_Graph) (l : List Int) (hl : Sz l) (h : (l.all fun v => inb v g.fVars.length) = true) : F52 g l = some (l.map (tv g.fVars)) := by
  unfold Sz at hl;unfold F52;rw [made_nat (by omega) (by omega),Option.bind_some];have := loop_st (l := l) (f := fun s : List Int × Int => F52_1_b g l s.1 s.2) (mk := fun s i => (s,i)) (fin := fun s => s) (R := List Int) (fun i s a => .inr (s.set i (tv g.fVars a)))
    (fun i s => s.length = l.length) (by omega) (fun i s a hI ha => ?_) (fun s hI => ?_) (s := List.replicate l.length 0) (by simp)
  · rw [this];have key : ∀ (m : List Int) (i : Nat) (s : List Int),m = l.drop i → s.length = l.length → runs (R := List Int) (fun i s a => .inr (s.set i (tv g.fVars a))) i s m = .inr (s.take i ++ m.map (tv g.fVars)) := by
      intro m
      induction m with
      | nil =>
        intro i s h1 h2;have : l.length ≤ i := by
          have := congrArg List.length h1; simp at this; omega
        rw [runs,List.map_nil,List.append_nil,List.take_of_length_le (by omega)]
      | cons a m ih =>
        intro i s h1 h2;have hil : i < l.length := by
          have := congrArg List.length h1; simp at this; omega
        have h4 : m = l.drop (i + 1) := by
          have := congrArg (·.drop 1) h1
          simpa [List.drop_drop] using this
        rw [runs];show runs _ (i + 1) (s.set i (tv g.fVars a)) m = _;rw [ih (i + 1) _ h4 (by simpa using h2),List.map_cons]
        congr 1
        rw [List.take_succ_eq_append_getElem (by simpa using by omega),List.getElem_set_self,List.take_set_of_le (Nat.le_refl i),List.append_assoc]; rfl
    rw [key l 0 _ rfl (by simp)]
    simp [outOf]
  · have hil := lt_of ha;have hv : inb a g.fVars.length = true := List.all_eq_true.1 h a (List.mem_of_getElem? ha);refine ⟨?_,fun s' hs' => by cases hs'; simpa using hI⟩;show F52_1_b g l s (i : Int) = _;have hs : s[i]? = some s[i] := List.getElem?_eq_getElem (by omega);simp only [F52_1_b,lt_dec hil,if_true,idx_some ha,idx_some hs,Option.bind_some,idx_tv hv,upd_nat (show i < s.length by omega),wnat (show i ≤ 4611686018427387904 by omega),stpOf]
  · show F52_1_b g l s (l.length : Int) = _;simp only [F52_1_b,ge_dec,Bool.false_eq_true,if_false]
theorem ite_ff {c : Bool} {k : Option Bool} {b : Bool} (h : k = some b) : (if c = true then some false else k) = some (!c && b) := by cases c <;> simp [h]
theorem ite_nn {c : Bool} {k : Option Bool} {b : Bool} (h : k = some b) : (if (!c) = true then some false else k) = some (c && b) := by cases c <;> simp [h]
theorem ite_tt {c : Bool} {k : Option Bool} {b : Bool} (h : k = some b) : (if c = true then k else some false) = some (c && b) := by cases c <;> simp [h]
theorem loop_tt {q : Bool} {k : Option Bool} {b : Bool} (h : k = some b) : ((some (if q = true then Out.go () else Out.ret false) : Option (Out Bool Unit)).bind fun o => match o with | .ret r => some r | .go () => k) = some (q && b) := by cases q <;> simp [h]
theorem part0 {α : Type} {l : List α} {i : Nat} (h : i ≤ l.length) : part l 0 (i : Int) = some (l.take i) := by
  unfold part;rw [if_pos ⟨by omega,by omega,by omega⟩]; simp
def okA (a : T_Array) : Bool := ty a.fType && (!decide (a.fSize < 1) && !decide (a.fSize > 256))
def hdV (g : T_Graph) (q : Bool) : Bool :=
  !decide (((List.length g.fBlocks : Nat) : Int) < (1 : Int)) && (!decide (((List.length g.fBlocks : Nat) : Int) > (1048576 : Int)) && (!decide (((List.length g.fVars : Nat) : Int) > (1048576 : Int)) && (!decide (((List.length g.fArrays : Nat) : Int) > (1048576 : Int)) && (!decide (((List.length g.fParams : Nat) : Int) > (8 : Int)) && (ty g.fResult && q)))))
def once (l : List Int) : Bool := allI (fun i v => !((l.take i).any (v == ·))) 0 l
def hd (g : T_Graph) : Bool := hdV g (g.fVars.all ty && (g.fArrays.all okA && ((g.fParams.all (fun v => inb v g.fVars.length) && once g.fParams) && true)))
theorem F59_is (g : T_Graph) (hs : SzG g) : F59 g = some (hd g) := by
  have h1 := hs.params; have h2 := hs.vars; have h3 := hs.arrays;unfold Sz at h1 h2 h3;have e1 : iter (fun s : (Int) => F59_1_b g s) FUEL (0 : Int) = some (if g.fVars.all ty = true then Out.go () else Out.ret false) := by
    rw [← allI_const ty 0];refine loop_all (fun _ t => ty t) (by omega) (fun i a h => ?_) ?_
    · have := lt_of h;simp only [F59_1_b,lt_dec this,if_true,idx_some h,Option.bind_some,F78_is,wnat (show i ≤ 4611686018427387904 by omega)];cases ty a <;> rfl
    · simp only [F59_1_b,ge_dec,Bool.false_eq_true,if_false]
  have e2 : iter (fun s : (Int) => F59_2_b g s) FUEL (0 : Int) = some (if g.fArrays.all okA = true then Out.go () else Out.ret false) := by
    rw [← allI_const okA 0];refine loop_all (fun _ t => okA t) (by omega) (fun i a h => ?_) ?_
    · have := lt_of h;simp only [F59_2_b,lt_dec this,if_true,idx_some h,Option.bind_some,F78_is,wnat (show i ≤ 4611686018427387904 by omega),okA]
      by_cases q1 : ty a.fType = true <;> by_cases q2 : a.fSize < 1 <;> by_cases q3 : a.fSize > 256 <;> simp [q1,q2,q3]
    · simp only [F59_2_b,ge_dec,Bool.false_eq_true,if_false]
  have e3 : iter (fun s : (Int) => F59_3_b g s) FUEL (0 : Int) = some (if (g.fParams.all (fun v => inb v g.fVars.length) && once g.fParams) = true then Out.go () else Out.ret false) := by
    rw [← allI_const (fun v => inb v g.fVars.length) 0,once,← allI_and];refine loop_all (fun i v => inb v g.fVars.length && !((g.fParams.take i).any (v == ·))) (by omega) (fun i a h => ?_) ?_
    · have := lt_of h;simp only [F59_3_b,lt_dec this,if_true,idx_some h,Option.bind_some,in34',part0 (Nat.le_of_lt this),F79_is (g.fParams.take i) a (by unfold Sz; rw [List.length_take]; omega),wnat (show i ≤ 4611686018427387904 by omega)];cases inb a g.fVars.length <;> cases (g.fParams.take i).any (a == ·) <;> rfl
    · simp only [F59_3_b,ge_dec,Bool.false_eq_true,if_false]
  unfold F59 hd hdV;rw [e1,e2,e3,F78_is,Option.bind_some];exact ite_ff (ite_ff (ite_ff (ite_ff (ite_ff (ite_nn (loop_tt (loop_tt (loop_tt rfl))))))))
def blkV (x : Int) (n : Nat) : Bool := decide (x > 0) && decide (x < (n : Int))
theorem F80_is (x : Int) (g : T_Graph) : F80 x g = some (blkV x g.fBlocks.length) := by unfold F80 blkV; by_cases h : 0 < x <;> simp [h]
def ofV (w : Int) (t : T_Term) (g : T_Graph) : Bool := inb t.fArg g.fVars.length && (tv g.fVars t.fArg == w)
theorem F81_is (w : Int) (t : T_Term) (g : T_Graph) : F81 w t g = some (ofV w t g) := by
  unfold F81 ofV;rw [in34',Option.bind_some];cases h : inb t.fArg g.fVars.length
  · rfl
  · simp only [if_true,idx_tv h,Option.bind_some,Bool.true_and]
def endV (g : T_Graph) (t : T_Term) : Bool :=
  if t.fKind = 1 then blkV t.fTo.a0 g.fBlocks.length && ((t.fTo.a1 == 0) && ((t.fArg == 0) && (t.fTrap == 0)))
  else if t.fKind = 2 then blkV t.fTo.a0 g.fBlocks.length && (blkV t.fTo.a1 g.fBlocks.length && (ofV 1 t g && (t.fTrap == 0)))
  else if t.fKind = 3 then ofV g.fResult t g && (decide (t.fTo = ⟨0,0⟩) && (t.fTrap == 0))
  else if t.fKind = 4 then decide (t.fTrap ≥ 1) && (decide (t.fTrap ≤ 3) && ((t.fArg == 0) && decide (t.fTo = ⟨0,0⟩)))
  else false
theorem beq_dec (a b : Int) : (a == b) = decide (a = b) := by by_cases h : a = b <;> simp [h]
theorem F60_is (g : T_Graph) (t : T_Term) : F60 g t = some (endV g t) := by
  unfold F60 endV;simp only [F80_is,F81_is,Option.bind_some]
  by_cases h1 : t.fKind = 1
  · rw [if_pos (show (t.fKind == 1) = true by simp [h1]),if_pos h1];exact ite_tt (ite_tt (ite_tt rfl))
  rw [if_neg (show ¬ (t.fKind == 1) = true by simp [h1]),if_neg h1]
  by_cases h2 : t.fKind = 2
  · rw [if_pos (show (t.fKind == 2) = true by simp [h2]),if_pos h2];exact ite_tt (ite_tt (ite_tt rfl))
  rw [if_neg (show ¬ (t.fKind == 2) = true by simp [h2]),if_neg h2]
  by_cases h3 : t.fKind = 3
  · rw [if_pos (show (t.fKind == 3) = true by simp [h3]),if_pos h3];exact ite_tt (ite_tt rfl)
  rw [if_neg (show ¬ (t.fKind == 3) = true by simp [h3]),if_neg h3]
  by_cases h4 : t.fKind = 4
  · rw [if_pos (show (t.fKind == 4) = true by simp [h4]),if_pos h4];exact ite_tt (ite_tt (ite_tt rfl))
  rw [if_neg (show ¬ (t.fKind == 4) = true by simp [h4]),if_neg h4]
def badPhi (z : Bool) (n k : Nat) (set : List Int) (x : T_Ins) : Bool := z || (decide (set.length ≠ k) || (decide (x.fArgs.length ≠ n) || set.any (x.fDst == ·)))
def stepPhi (z : Bool) (n : Nat) (k : Nat) (set : List Int) (x : T_Ins) : Bool ⊕ List Int := if x.fKind = 1 then (if badPhi z n k set x = true then .inl false else .inr (set ++ [x.fDst])) else .inr set
def jn (z : Bool) (n : Nat) (k : Nat) (set : List Int) (l : List T_Ins) : Bool := match runs (stepPhi z n) k set l with | .inl _ => false | .inr _ => true
theorem runs_left (z : Bool) (n : Nat) : ∀ (l : List T_Ins) (k : Nat) (set : List Int),(∃ s,runs (stepPhi z n) k set l = .inr s ∧ jn z n k set l = true) ∨ (runs (stepPhi z n) k set l = .inl false ∧ jn z n k set l = false)
  | [],k,set => .inl ⟨set,rfl,rfl⟩
  | x :: l,k,set => by
    unfold jn;rw [runs];cases h : stepPhi z n k set x with
    | inl r =>
      have : r = false := by
        unfold stepPhi at h; split at h
        · split at h
          · cases h; rfl
          · cases h
        · cases h
      subst this;exact .inr ⟨rfl,rfl⟩
    | inr s => exact runs_left z n l (k + 1) s
theorem F61_is (b : T_Block) (n : Nat) (hb : b.fIns.length ≤ 1000000) : F61 b (n : Int) = some (jn false n 0 [] b.fIns) := by
  have e : iter (fun s : ((List Int) × Int) => F61_1_b b (n : Int) s.1 s.2) FUEL ([],(0 : Int)) = some (outOf (fun _ => ()) (runs (stepPhi false n) 0 [] b.fIns)) := by
    refine loop_st (l := b.fIns) (f := fun s : List Int × Int => F61_1_b b (n : Int) s.1 s.2) (mk := fun s i => (s,i)) (fin := fun s => ()) (stepPhi false n) (fun i s => s.length ≤ i) (by omega) (fun i s a hI ha => ?_) (fun s hI => ?_) (s := []) (by simp)
    · have hil := lt_of ha;refine ⟨?_,fun s' hs' => ?_⟩
      · show F61_1_b b (n : Int) s (i : Int) = _;simp only [F61_1_b,F61_j1,lt_dec hil,if_true,idx_some ha,Option.bind_some,F79_is s a.fDst (by unfold Sz; omega),more_nat (by_ := 8) (l := s) (r := [a.fDst]) (by simp; omega),wnat (show i ≤ 4611686018427387904 by omega),stepPhi,badPhi,stpOf]
        by_cases hk : a.fKind = 1
        · by_cases h1 : s.length = i
          · by_cases h2 : a.fArgs.length = n
            · have q1 : ((i : Int) != (s.length : Int)) = false := by simp [h1]
              have q2 : ((a.fArgs.length : Int) != (n : Int)) = false := by simp [h2]
              have q3 : (a.fKind != 1) = false := by simp [hk]
              rw [q3,q1,q2];rcases Bool.eq_false_or_eq_true (s.any (a.fDst == ·)) with hc | hc <;> simp only [hc] <;> simp [hk,h1,h2]
            · have q1 : ((i : Int) != (s.length : Int)) = false := by simp [h1]
              have q2 : ((a.fArgs.length : Int) != (n : Int)) = true := by simp; omega
              have q3 : (a.fKind != 1) = false := by simp [hk]
              rw [q3,q1,q2]; simp [hk,h2]
          · have q1 : ((i : Int) != (s.length : Int)) = true := by simp; omega
            have q3 : (a.fKind != 1) = false := by simp [hk]
            rw [q3,q1]; simp [hk,h1]
        · have q3 : (a.fKind != 1) = true := by simp [hk]
          rw [q3]; simp [hk]
      · unfold stepPhi at hs'
        split at hs'
        · split at hs'
          · cases hs'
          · cases hs'; simp; omega
        · cases hs'; omega
    · show F61_1_b b (n : Int) s (b.fIns.length : Int) = _;simp only [F61_1_b,ge_dec,Bool.false_eq_true,if_false]
  unfold F61;rw [e];rcases runs_left false n b.fIns 0 [] with ⟨s,h1,h2⟩ | ⟨h1,h2⟩
  · rw [h1,h2]; rfl
  · rw [h1,h2]; rfl
def phi0 (b : T_Block) : Bool := match b.fIns with | [] => false | x :: _ => decide (x.fKind = 1)
theorem beq_f {a b : Int} (h : a ≠ b) : (a == b) = false := by simp [h]
theorem bne_t {a b : Int} (h : a ≠ b) : (a != b) = true := by simp [h]
theorem bne_not (a b : Int) : (a != b) = !(a == b) := rfl
def lnV (n : Option Nat) (l : List Int) : Bool := match n with | none => true | some k => decide (l.length = k)
def fmV (g : T_Graph) (x : T_Ins) (d o b r : Bool) (n : Option Nat) (arr : Bool) : Bool :=
  (if d then inb x.fDst g.fVars.length else x.fDst == 0) && ((o || x.fOp == 0) && ((b || x.fBits == 0) && ((r || x.fRef == 0) && (lnV n x.fArgs && ((!arr || inb x.fRef g.fArrays.length) && x.fArgs.all fun v => inb v g.fVars.length)))))
def fm (g : T_Graph) (x : T_Ins) : Bool :=
  if x.fKind = 1 then fmV g x true false false false none false
  else if x.fKind = 2 then fmV g x true false true false (some 0) false
  else if x.fKind = 3 then fmV g x true false false false (some 1) false
  else if x.fKind = 4 then fmV g x true true false false none false
  else if x.fKind = 5 then fmV g x true false false false (some 1) false
  else if x.fKind = 6 then fmV g x true false false true (some 1) true
  else if x.fKind = 7 then fmV g x false false false true (some 2) true
  else if x.fKind = 8 then fmV g x false false false true (some 0) true
  else if x.fKind = 9 then fmV g x true false false true none false
  else if x.fKind = 10 then fmV g x false false false false (some 1) false
  else false
theorem F51_is (g : T_Graph) (x : T_Ins) (hx : Sz x.fArgs) : F51 g x = some (fm g x) := by
  have ha := F71_is x.fArgs g hx;obtain ⟨k,op,dst,args,bits,ref⟩ := x;simp only at ha
  by_cases h1 : k < 1
  · unfold F51 fm;simp only [decide_eq_true h1,if_true];rw [if_neg (by omega),if_neg (by omega),if_neg (by omega),if_neg (by omega),if_neg (by omega),if_neg (by omega),if_neg (by omega),if_neg (by omega),if_neg (by omega),if_neg (by omega)]
  by_cases h2 : k > 10
  · unfold F51 fm;simp only [decide_eq_false h1,decide_eq_true h2,if_true,Bool.false_eq_true,if_false];rw [if_neg (by omega),if_neg (by omega),if_neg (by omega),if_neg (by omega),if_neg (by omega),if_neg (by omega),if_neg (by omega),if_neg (by omega),if_neg (by omega),if_neg (by omega)]
  have fin : ∀ (d o b r : Bool) (n : Option Nat) (arr : Bool) (f : T_form),idx G0 k = some f → f.fdst = d → f.fop = o → f.fbits = b → f.fref = r → (match n with | none => f.fargs < 0 | some m => f.fargs = (m : Int)) → (arr = (r && !(k == 9))) →
      F51 g ⟨k,op,dst,args,bits,ref⟩ = some (fmV g ⟨k,op,dst,args,bits,ref⟩ d o b r n arr) := by
    intro d o b r n arr f hf hd ho hb hr hn harr;have e1 : F51_j1 g ⟨k,op,dst,args,bits,ref⟩ = some (args.all fun v => inb v g.fVars.length) := by
      unfold F51_j1; simp only [ha,Option.bind_some,Bool.not_not]
    have e4 : ∀ y,F51_j4 g ⟨k,op,dst,args,bits,ref⟩ f y = some (!y && ((!arr || inb ref g.fArrays.length) && args.all fun v => inb v g.fVars.length)) := by
      intro y;unfold F51_j4;refine ite_ff ?_;simp only [e1,in34',Option.bind_some,hr,harr,bne_not];cases r
      · rfl
      · simp only [if_true,Bool.true_and,Bool.not_not];cases (k == 9)
        · exact ite_nn rfl
        · rfl
    have e3 : ∀ y,F51_j3 g ⟨k,op,dst,args,bits,ref⟩ f y = some (!y && (lnV n args && ((!arr || inb ref g.fArrays.length) && args.all fun v => inb v g.fVars.length))) := by
      intro y;unfold F51_j3;refine ite_ff ?_;cases n with
      | none =>
        simp only at hn;rw [decide_eq_false (show ¬ f.fargs ≥ 0 by omega)];simp only [Bool.false_eq_true,if_false,e4]; rfl
      | some m =>
        simp only at hn;rw [decide_eq_true (show f.fargs ≥ 0 by omega)];simp only [if_true,e4,hn]
        by_cases hm : args.length = m
        · have : (((List.length args : Nat) : Int) != (m : Int)) = false := by simp [hm]
          simp [this,hm,lnV]
        · have : (((List.length args : Nat) : Int) != (m : Int)) = true := by simp; omega
          simp [this,hm,lnV]
    have e5 : ∀ y,F51_j5 g ⟨k,op,dst,args,bits,ref⟩ f y = some (!y && ((b || bits == 0) && ((r || ref == 0) && (lnV n args && ((!arr || inb ref g.fArrays.length) && args.all fun v => inb v g.fVars.length))))) := by
      intro y;unfold F51_j5;simp only [e3,hb,hr,bne_not]
      generalize (lnV n args && ((!arr || inb ref g.fArrays.length) && args.all fun v => inb v g.fVars.length)) = Z
      generalize (bits == 0) = A
      generalize (ref == 0) = B
      cases y <;> cases b <;> cases A <;> cases r <;> cases B <;> cases Z <;> rfl
    have e2 : ∀ y,F51_j2 g ⟨k,op,dst,args,bits,ref⟩ f y = some (!y && ((o || op == 0) && ((b || bits == 0) && ((r || ref == 0) && (lnV n args && ((!arr || inb ref g.fArrays.length) && args.all fun v => inb v g.fVars.length)))))) := by
      intro y;unfold F51_j2;refine ite_ff ?_;simp only [e5,ho,bne_not]
      generalize ((b || bits == 0) && ((r || ref == 0) && (lnV n args && ((!arr || inb ref g.fArrays.length) && args.all fun v => inb v g.fVars.length)))) = Z
      generalize (op == 0) = A
      cases o <;> cases A <;> cases Z <;> rfl
    unfold F51;simp only [decide_eq_false h1,decide_eq_false h2,Bool.false_eq_true,if_false,hf,Option.bind_some,in34',e2,hd,bne_not,fmV];cases d
    · cases (dst == 0) <;> rfl
    · simp only [if_true,Bool.not_not]
  have hk : k = 1 ∨ k = 2 ∨ k = 3 ∨ k = 4 ∨ k = 5 ∨ k = 6 ∨ k = 7 ∨ k = 8 ∨ k = 9 ∨ k = 10 := by omega
  rcases hk with rfl | rfl | rfl | rfl | rfl | rfl | rfl | rfl | rfl | rfl
  · exact fin true false false false none false _ rfl rfl rfl rfl rfl (by decide) rfl
  · exact fin true false true false (some 0) false _ rfl rfl rfl rfl rfl (by decide) rfl
  · exact fin true false false false (some 1) false _ rfl rfl rfl rfl rfl (by decide) rfl
  · exact fin true true false false none false _ rfl rfl rfl rfl rfl (by decide) rfl
  · exact fin true false false false (some 1) false _ rfl rfl rfl rfl rfl (by decide) rfl
  · exact fin true false false true (some 1) true _ rfl rfl rfl rfl rfl (by decide) rfl
  · exact fin false false false true (some 2) true _ rfl rfl rfl rfl rfl (by decide) rfl
  · exact fin false false false true (some 0) true _ rfl rfl rfl rfl rfl (by decide) rfl
  · exact fin true false false true none false _ rfl rfl rfl rfl rfl (by decide) rfl
  · exact fin false false false false (some 1) false _ rfl rfl rfl rfl rfl (by decide) rfl
theorem kinds {k : Int} (h1 : 1 ≤ k) (h2 : k ≤ 10) : k = 1 ∨ k = 2 ∨ k = 3 ∨ k = 4 ∨ k = 5 ∨ k = 6 ∨ k = 7 ∨ k = 8 ∨ k = 9 ∨ k = 10 := by omega
theorem j2_is (to : Int) (y : Bool) : ∃ t,F31_j2 to y = some (t,y) := by cases y <;> exact ⟨_,rfl⟩
theorem len_two {α : Type} {l : List α} (h : l.length = 2) : ∃ a c,l = [a,c] := by
  match l,h with
  | [a,c],_ => exact ⟨a,c,rfl⟩
theorem ite_nn' {c : Bool} {k : Option Bool} {b : Bool} (h : c = true → k = some b) : (if (!c) = true then some false else k) = some (c && b) := by cases c <;> simp_all
theorem ite_tt' {c : Bool} {k : Option Bool} {b : Bool} (h : c = true → k = some b) : (if c = true then k else some false) = some (c && b) := by cases c <;> simp_all
theorem loop_tt' {q : Bool} {k : Option Bool} {b : Bool} (h : q = true → k = some b) : ((some (if q = true then Out.go () else Out.ret false) : Option (Out Bool Unit)).bind fun o => match o with | .ret r => some r | .go () => k) = some (q && b) := by cases q <;> simp_all
theorem F58_is (p : List T_Graph) (x : T_Ins) (ts : List Int) (to : Int) (f : T_Graph) (hf : p[x.fRef.toNat]? = some f) (hr : inb x.fRef p.length = true) (hp : Sz f.fParams) :
    F58 p x ts to = some ((f.fParams.all fun v => inb v f.fVars.length) && (f.fResult == to && decide (f.fParams.map (tv f.fVars) = ts))) := by
  have hr' := of_decide_eq_true hr;have hix : idx p x.fRef = some f := by unfold idx; rw [if_pos hr'.1,hf]
  unfold F58;rw [in34',Option.bind_some,hr];simp only [Bool.not_true,Bool.false_eq_true,if_false,hix,Option.bind_some];have e : iter (fun s : (Int) => F58_1_b ts to f s) FUEL (0 : Int) = some (if (f.fParams.all fun v => inb v f.fVars.length) = true then .go () else .ret false) := by
    rw [← allI_const (fun v => inb v f.fVars.length) 0];unfold Sz at hp;refine loop_all (fun _ v => inb v f.fVars.length) (by omega) (fun i a h => ?_) ?_
    · have := lt_of h;simp only [F58_1_b,lt_dec this,if_true,idx_some h,Option.bind_some,in34',wnat (show i ≤ 4611686018427387904 by omega)];cases inb a f.fVars.length <;> rfl
    · simp only [F58_1_b,ge_dec,Bool.false_eq_true,if_false]
  rw [e];refine loop_tt' fun hP => ite_tt' fun _ => ?_
  rw [F52_is f f.fParams hp hP,Option.bind_some,F77_is _ _ (by unfold Sz at hp ⊢; simpa using hp),Option.bind_some]
theorem F31_open {p : List T_Graph} {g : T_Graph} {x : T_Ins} {f : T_form} (hx : Sz x.fArgs) (hfm : fm g x = true) (hA : (x.fArgs.all fun v => inb v g.fVars.length) = true) (hf : idx G0 x.fKind = some f) (hd : f.fdst = true → inb x.fDst g.fVars.length = true) :
    F31 p g x = F31_j1 p g x (x.fArgs.map (tv g.fVars)) (if f.fdst = true then tv g.fVars x.fDst else 0) := by
  unfold F31;rw [F51_is g x hx,Option.bind_some,hfm];simp only [Bool.not_true,Bool.false_eq_true,if_false];rw [F52_is g x.fArgs hx hA,Option.bind_some,hf,Option.bind_some];cases h : f.fdst
  · rfl
  · simp only [if_true,idx_tv (hd h),Option.bind_some]
theorem F31_shut {p : List T_Graph} {g : T_Graph} {x : T_Ins} (hx : Sz x.fArgs) (hfm : fm g x = false) : F31 p g x = some (0,false) := by
  unfold F31;rw [F51_is g x hx,Option.bind_some,hfm]; rfl
theorem idx_arr {l : List T_Array} {r : Int} (h : inb r l.length = true) : ∃ a,idx l r = some a := by
  have h := of_decide_eq_true h;unfold idx;rw [if_pos h.1];exact ⟨l[r.toNat]'(by omega),List.getElem?_eq_getElem (by omega)⟩
theorem fmV_args {g : T_Graph} {x : T_Ins} {d o b r : Bool} {n : Option Nat} {arr : Bool} (h : fmV g x d o b r n arr = true) : (x.fArgs.all fun v => inb v g.fVars.length) = true := by
  unfold fmV at h; simp only [Bool.and_eq_true] at h; exact h.2.2.2.2.2.2
def tyB (p : List T_Graph) (g : T_Graph) (x : T_Ins) : Bool := match F31 p g x with | some c => c.2 | none => false
theorem allI_get {α : Type} {q : Nat → α → Bool} : ∀ (l : List α) (i : Nat),allI q i l = true → ∀ j a,l[j]? = some a → q (i + j) a = true
  | [],i,h,j,a,ha => by simp at ha
  | x :: l,i,h,j,a,ha => by
    rw [allI,Bool.and_eq_true] at h;cases j with
    | zero => simp at ha; subst ha; exact h.1
    | succ j =>
      have := allI_get l (i + 1) h.2 j a (by simpa using ha)
      rwa [show i + (j + 1) = i + 1 + j by omega]
end Go.Eng.Gra
namespace Go.Eng.Gra
open Go Go.Eng
set_option linter.unusedSectionVars false
set_option linter.unusedVariables false
set_option linter.unusedSimpArgs false
theorem F74_some (t b : Int) : ∃ v,F74 t b = some v := by
  unfold F74 F74_j1
  repeat' split
  all_goals exact ⟨_,rfl⟩
theorem F55_some (t b : Int) : ∃ v,F55 t b = some v := by
  obtain ⟨v,e1⟩ := F74_some t b;unfold F55;rw [e1];cases decide (t ≥ 1) <;> cases decide (t ≤ 5) <;> exact ⟨_,rfl⟩
theorem F75_some (op t : Int) : ∃ v,F75 op t = some v := by
  have ht : t < 1 ∨ t > 5 ∨ t = 1 ∨ t = 2 ∨ t = 3 ∨ t = 4 ∨ t = 5 := by omega
  by_cases q3 : 1 ≤ op ∧ op ≤ 18
  · have ho : op = 1 ∨ op = 2 ∨ op = 3 ∨ op = 4 ∨ op = 5 ∨ op = 6 ∨ op = 7 ∨ op = 8 ∨ op = 9 ∨ op = 10 ∨ op = 11 ∨ op = 12 ∨ op = 13 ∨ op = 14 ∨ op = 15 ∨ op = 16 ∨ op = 17 ∨ op = 18 := by omega
    rcases ht with q | q | ht
    · refine ⟨(0,false),?_⟩;unfold F75; rw [decide_eq_true q]; rfl
    · refine ⟨(0,false),?_⟩;unfold F75; rw [decide_eq_false (show ¬ t < 1 by omega),decide_eq_true q]; rfl
    · rcases ht with rfl | rfl | rfl | rfl | rfl <;>
      rcases ho with rfl | rfl | rfl | rfl | rfl | rfl | rfl | rfl | rfl | rfl | rfl | rfl | rfl | rfl | rfl | rfl | rfl | rfl <;>
      exact ⟨_,rfl⟩
  · refine ⟨(0,false),?_⟩
    by_cases q1 : t < 1
    · unfold F75; rw [decide_eq_true q1]; rfl
    by_cases q2 : t > 5
    · unfold F75; rw [decide_eq_false q1,decide_eq_true q2]; rfl
    have ne : ∀ k : Int,1 ≤ k → k ≤ 18 → (op == k) = false := by
      intro k h1 h2;have : op ≠ k := by omega
      simp [this]
    unfold F75;rw [decide_eq_false q1,decide_eq_false q2];rw [ne 1 (by decide) (by decide),ne 2 (by decide) (by decide),ne 3 (by decide) (by decide),ne 4 (by decide) (by decide),ne 5 (by decide) (by decide),ne 6 (by decide) (by decide),ne 7 (by decide) (by decide),ne 8 (by decide) (by decide),ne 9 (by decide) (by decide),ne 10 (by decide) (by decide),ne 11 (by decide) (by decide),ne 12 (by decide) (by decide),ne 13 (by decide) (by decide),ne 14 (by decide) (by decide),ne 15 (by decide) (by decide),ne 16 (by decide) (by decide),ne 17 (by decide) (by decide),ne 18 (by decide) (by decide)]
    rfl
theorem F57_some (a b : Int) : ∃ v,F57 a b = some v := by
  have w : ∀ t : Int,∃ v,F76 t = some v := by
    intro t;unfold F76
    repeat' split
    all_goals exact ⟨_,rfl⟩
  obtain ⟨v,h1⟩ := w a;obtain ⟨u,h2⟩ := w b;unfold F57;rw [h1,h2];simp only [Option.bind_some]
  repeat' split
  all_goals exact ⟨_,rfl⟩
theorem F56_some (op : Int) (ts : List Int) (to : Int) : ∃ v,F56 op ts to = some v := by
  have e0 : IntKind.i64.wrap ((1 : Int) - 1) = 0 := by rw [IntKind.wrap_i64]; omega
  have e1 : IntKind.i64.wrap ((2 : Int) - 1) = 1 := by rw [IntKind.wrap_i64]; omega
  have j : ∀ n : Int,n = 1 ∨ n = 2 → ∃ v,F56_j1 op ts to n = some v := by
    intro n hn;unfold F56_j1;cases hc : (((List.length ts : Nat) : Int) != n)
    case true => exact ⟨false,rfl⟩
    have hl : ((List.length ts : Nat) : Int) = n := by simpa using hc
    simp only [Bool.false_eq_true,if_false];have rest : ∀ a c : Int,∃ v,(if (a != c) = true then some false else (F75 op a).bind fun y : Int × Bool => if y.2 = true then some (y.1 == to) else some false) = some v := by
      intro a c;obtain ⟨v,h⟩ := F75_some op a;rw [h,Option.bind_some]
      repeat' split
      all_goals exact ⟨_,rfl⟩
    rcases hn with rfl | rfl
    · obtain ⟨a,rfl⟩ : ∃ a,ts = [a] := List.length_eq_one_iff.mp (by omega);rw [e0];exact rest a a
    · obtain ⟨a,c,rfl⟩ : ∃ a c,ts = [a,c] := len_two (by omega);rw [e1];exact rest a c
  unfold F56
  repeat' split
  · exact j 1 (.inl rfl)
  · exact j 1 (.inl rfl)
  · exact j 2 (.inr rfl)
theorem fm_phi {g : T_Graph} {op dst : Int} {args : List Int} {bits ref : Int} : fm g ⟨1,op,dst,args,bits,ref⟩ = fmV g ⟨1,op,dst,args,bits,ref⟩ true false false false none false := by
  unfold fm; rw [if_pos rfl]
theorem fm_args {g : T_Graph} {x : T_Ins} (h : fm g x = true) : (x.fArgs.all fun v => inb v g.fVars.length) = true := by
  unfold fm at h
  iterate 10 (split at h; · exact fmV_args h)
  cases h
theorem fm_kind {g : T_Graph} {x : T_Ins} (h : fm g x = true) : 1 ≤ x.fKind ∧ x.fKind ≤ 10 := by
  unfold fm at h
  by_cases hk : 1 ≤ x.fKind ∧ x.fKind ≤ 10
  · exact hk
  · rw [if_neg (by omega),if_neg (by omega),if_neg (by omega),if_neg (by omega),if_neg (by omega),if_neg (by omega),if_neg (by omega),if_neg (by omega),if_neg (by omega),if_neg (by omega)] at h;cases h
theorem F31_phi (p : List T_Graph) (g : T_Graph) (x : T_Ins) (hx : Sz x.fArgs) (hk : x.fKind = 1) : ∃ t,F31 p g x = some (t,fm g x && x.fArgs.all fun a => tv g.fVars a == tv g.fVars x.fDst) := by
  cases hfm : fm g x
  · exact ⟨0,F31_shut hx hfm⟩
  have hA := fm_args hfm;have op31 := fun f hf hd => F31_open (p := p) (f := f) hx hfm hA hf hd
  obtain ⟨k,op,dst,args,bits,ref⟩ := x;simp only at hk hA op31 hx;subst hk;have hd : inb dst g.fVars.length = true := by rw [fm_phi] at hfm; simp only [fmV,if_true,Bool.and_eq_true] at hfm; exact hfm.1
  have e := op31 _ rfl (fun _ => hd);simp only [F31_j1,F31_j3,Int.reduceBEq,if_true,Bool.false_eq_true,if_false] at e;rw [F53_is _ _ (by unfold Sz at hx ⊢; simpa using hx),Option.bind_some,Bool.not_not] at e;obtain ⟨t,ht⟩ := j2_is (if (true : Bool) = true then tv g.fVars dst else 0) ((args.map (tv g.fVars)).all fun a => a == tv g.fVars dst);refine ⟨t,(e.trans ht).trans ?_⟩;rw [List.all_map,Bool.true_and]; rfl
theorem F31_some (p : List T_Graph) (g : T_Graph) (x : T_Ins) (hx : Sz x.fArgs) (hp : ∀ f ∈ p,Sz f.fParams) : ∃ t,F31 p g x = some (t,tyB p g x) := by
  suffices h : ∃ t b,F31 p g x = some (t,b) by
    obtain ⟨t,b,h⟩ := h;refine ⟨t,?_⟩;unfold tyB; rw [h]
  by_cases hk1 : x.fKind = 1
  · obtain ⟨t,h⟩ := F31_phi p g x hx hk1;exact ⟨t,_,h⟩
  cases hfm : fm g x
  · exact ⟨0,_,F31_shut hx hfm⟩
  have hA := fm_args hfm;have hk := fm_kind hfm;have op31 := fun f hf hd => F31_open (p := p) (f := f) hx hfm hA hf hd
  have opF := fun f hf hr hp => F58_is p x (x.fArgs.map (tv g.fVars)) (tv g.fVars x.fDst) f hf hr hp
  have j2 : ∀ (to : Int) (y : Bool),∃ t b,F31_j2 to y = some (t,b) := fun to y => by
    obtain ⟨t,h⟩ := j2_is to y; exact ⟨t,y,h⟩
  obtain ⟨k,op,dst,args,bits,ref⟩ := x;simp only at hk hA op31 hx opF hk1;rcases kinds hk.1 hk.2 with rfl | rfl | rfl | rfl | rfl | rfl | rfl | rfl | rfl | rfl
  · exact absurd rfl hk1
  · simp only [fm,fmV,Int.reduceEq,if_true,if_false,Bool.and_eq_true] at hfm;have e := op31 _ rfl (fun _ => hfm.1);simp only [F31_j1,F31_j3,Int.reduceBEq,if_true,Bool.false_eq_true,if_false] at e;rw [e];obtain ⟨v,h1⟩ := F55_some (tv g.fVars dst) bits;rw [h1,Option.bind_some];exact j2 _ _
  · simp only [fm,fmV,Int.reduceEq,if_true,if_false,Bool.and_eq_true] at hfm;have e := op31 _ rfl (fun _ => hfm.1);simp only [F31_j1,F31_j3,Int.reduceBEq,if_true,Bool.false_eq_true,if_false] at e;rw [F53_is _ _ (by unfold Sz at hx ⊢; simpa using hx),Option.bind_some] at e;rw [e];exact j2 _ _
  · simp only [fm,fmV,Int.reduceEq,if_true,if_false,Bool.and_eq_true] at hfm;have e := op31 _ rfl (fun _ => hfm.1);simp only [F31_j1,F31_j3,Int.reduceBEq,if_true,Bool.false_eq_true,if_false] at e;rw [e];obtain ⟨v,h1⟩ := F56_some op (args.map (tv g.fVars)) (tv g.fVars dst);rw [h1,Option.bind_some];exact j2 _ _
  · simp only [fm,fmV,Int.reduceEq,if_true,if_false,Bool.and_eq_true] at hfm;have e := op31 _ rfl (fun _ => hfm.1);simp only [F31_j1,F31_j3,Int.reduceBEq,if_true,Bool.false_eq_true,if_false] at e;obtain ⟨a,rfl⟩ : ∃ a,args = [a] := List.length_eq_one_iff.mp (by simpa [lnV] using hfm.2.2.2.2.1);rw [e];simp only [List.map_cons,List.map_nil,show idx [tv g.fVars a] (0 : Int) = some (tv g.fVars a) from rfl,Option.bind_some];obtain ⟨v,h1⟩ := F57_some (tv g.fVars dst) (tv g.fVars a);rw [h1,Option.bind_some];exact j2 _ _
  · simp only [fm,fmV,Int.reduceEq,if_true,if_false,Bool.and_eq_true] at hfm;have hr : inb ref g.fArrays.length = true := by simpa using hfm.2.2.2.2.2.1
    have e := op31 _ rfl (fun _ => hfm.1);simp only [F31_j1,F31_j3,Int.reduceBEq,if_true,Bool.false_eq_true,if_false] at e;obtain ⟨a,rfl⟩ : ∃ a,args = [a] := List.length_eq_one_iff.mp (by simpa [lnV] using hfm.2.2.2.2.1);obtain ⟨w,hw⟩ := idx_arr hr;rw [e];simp only [List.map_cons,List.map_nil,show idx [tv g.fVars a] (0 : Int) = some (tv g.fVars a) from rfl,Option.bind_some,hw]
    split
    · exact j2 _ _
    · exact j2 _ _
  · simp only [fm,fmV,Int.reduceEq,if_true,if_false,Bool.and_eq_true] at hfm;have hr : inb ref g.fArrays.length = true := by simpa using hfm.2.2.2.2.2.1
    have e := op31 _ rfl (fun h => by cases h);simp only [F31_j1,F31_j3,Int.reduceBEq,if_true,Bool.false_eq_true,if_false] at e;obtain ⟨a,c,rfl⟩ : ∃ a c,args = [a,c] := len_two (by simpa [lnV] using hfm.2.2.2.2.1);obtain ⟨w,hw⟩ := idx_arr hr;rw [e];simp only [List.map_cons,List.map_nil,show idx [tv g.fVars a,tv g.fVars c] (0 : Int) = some (tv g.fVars a) from rfl,show idx [tv g.fVars a,tv g.fVars c] (1 : Int) = some (tv g.fVars c) from rfl,Option.bind_some,hw]
    split
    · exact j2 _ _
    · exact j2 _ _
  · have e := op31 _ rfl (fun h => by cases h);simp only [F31_j1,F31_j3,Int.reduceBEq,if_true,Bool.false_eq_true,if_false] at e;rw [e];exact j2 _ _
  · simp only [fm,fmV,Int.reduceEq,if_true,if_false,Bool.and_eq_true] at hfm;have e := op31 _ rfl (fun _ => hfm.1);simp only [F31_j1,F31_j3,Int.reduceBEq,if_true,Bool.false_eq_true,if_false] at e;rw [e];have hF : ∃ b,F58 p ⟨9,op,dst,args,bits,ref⟩ (args.map (tv g.fVars)) (tv g.fVars dst) = some b := by
      cases hr : inb ref p.length
      case false => exact ⟨false,by unfold F58; simp only [in34',hr,Option.bind_some,Bool.not_false,if_true]⟩
      case true =>
        have hr' := of_decide_eq_true hr;have hf : p[ref.toNat]? = some (p[ref.toNat]'(by omega)) := List.getElem?_eq_getElem (by omega);have hmem : p[ref.toNat]'(by omega) ∈ p := List.getElem_mem _
        generalize p[ref.toNat]'(by omega) = f at hf hmem
        exact ⟨_,opF f hf hr (hp f hmem)⟩
    obtain ⟨b,h1⟩ := hF;rw [h1,Option.bind_some];exact j2 _ _
  · have e := op31 _ rfl (fun h => by cases h);simp only [F31_j1,F31_j3,Int.reduceBEq,if_true,Bool.false_eq_true,if_false] at e;rw [e];exact j2 _ _
end Go.Eng.Gra
namespace Go.Eng.Gra
open Go Go.Eng
set_option linter.unusedSectionVars false
set_option linter.unusedVariables false
set_option linter.unusedSimpArgs false
def Edge (bs : List T_Block) (b : T_Block) (to : Int) : Prop := 0 ≤ to ∧ to < (bs.length : Int) ∧ ((goV b.fTerm 0 = true ∧ to = b.fTerm.fTo.a0) ∨ (goV b.fTerm 1 = true ∧ to = b.fTerm.fTo.a1))
structure Wk (bs : List T_Block) (met met' : List Bool) (new : List Int) : Prop where
  len : met'.length = met.length
  mono : ∀ v : Nat,met[v]? = some true → met'[v]? = some true
  mem : ∀ v : Int,v ∈ new ↔ (0 ≤ v ∧ met[v.toNat]? = some false ∧ met'[v.toNat]? = some true)
  cnt : met'.count false + new.length = met.count false
  clo : ∀ u ∈ new,∀ b,bs[u.toNat]? = some b → ∀ to,Edge bs b to → met'[to.toNat]? = some true
  nd : new.Nodup
def Prd (bs : List T_Block) (R : Int → Prop) (new : List Int) : Prop := ∀ v ∈ new,R v ∨ ∃ u ∈ new,∃ b,bs[u.toNat]? = some b ∧ Edge bs b v
theorem get_bool {m : List Bool} {v : Nat} (h : v < m.length) : m[v]? = some true ∨ m[v]? = some false := by
  rw [List.getElem?_eq_getElem h]; cases m[v] <;> simp
theorem Wk.refl (bs : List T_Block) (met : List Bool) : Wk bs met met [] := ⟨rfl,fun _ h => h,fun v => ⟨fun h => by simp at h,fun ⟨_,h1,h2⟩ => by rw [h1] at h2; cases h2⟩,by simp,fun u h => by simp at h,List.nodup_nil⟩
theorem Wk.trans {bs : List T_Block} {a b c : List Bool} {n1 n2 : List Int} (h1 : Wk bs a b n1) (h2 : Wk bs b c n2) : Wk bs a c (n1 ++ n2) := by
  refine ⟨h2.len.trans h1.len,fun v h => h2.mono v (h1.mono v h),fun v => ?_,?_,fun u hu x hx to he => ?_,List.nodup_append.2 ⟨h1.nd,h2.nd,fun v hv w hw e => by
    subst e;have a := (h1.mem v).1 hv;have b := (h2.mem v).1 hw;rw [a.2.2] at b;cases b.2.1⟩⟩
  · rw [List.mem_append,h1.mem,h2.mem]
    constructor
    · rintro (⟨p,q,r⟩ | ⟨p,q,r⟩)
      · exact ⟨p,q,h2.mono _ r⟩
      · refine ⟨p,?_,r⟩;have hl : v.toNat < a.length := by rw [← h1.len]; exact (List.getElem?_eq_some_iff.mp q).1
        rcases get_bool hl with h | h
        · rw [h1.mono _ h] at q; cases q
        · exact h
    · rintro ⟨p,q,r⟩;have hl : v.toNat < b.length := by rw [h1.len]; exact (List.getElem?_eq_some_iff.mp q).1
      rcases get_bool hl with h | h
      · exact .inl ⟨p,q,h⟩
      · exact .inr ⟨p,h,r⟩
  · have := h1.cnt; have := h2.cnt; rw [List.length_append]; omega
  · rcases List.mem_append.mp hu with h | h
    · exact h2.mono _ (h1.clo u h x hx to he)
    · exact h2.clo u h x hx to he
theorem Prd.app {bs : List T_Block} {R R' : Int → Prop} {n1 n2 : List Int} (h1 : Prd bs R n1) (h2 : Prd bs R' n2) : Prd bs (fun v => R v ∨ R' v) (n1 ++ n2) := by
  intro v hv;rcases List.mem_append.mp hv with h | h
  · rcases h1 v h with h | ⟨u,hu,b,hb,he⟩
    · exact .inl (.inl h)
    · exact .inr ⟨u,List.mem_append_left _ hu,b,hb,he⟩
  · rcases h2 v h with h | ⟨u,hu,b,hb,he⟩
    · exact .inl (.inr h)
    · exact .inr ⟨u,List.mem_append_right _ hu,b,hb,he⟩
def WalkOk (bs : List T_Block) (rec : Int → WS → Option WS) (n : Nat) : Prop :=
  ∀ (met : List Bool) (out : List Int) (i : Nat),met.length = bs.length → met[i]? = some false → met.count false ≤ n → (out.length + met.count false) * 8 ≤ 140737488355328 →
    ∃ met' new,rec (i : Int) (met,out) = some (met',out ++ new) ∧ Wk bs met met' new ∧ (i : Int) ∈ new ∧ Prd bs (fun v => v = (i : Int)) new
theorem step_ok {bs : List T_Block} {rec : Int → WS → Option WS} {n : Nat} (hr : WalkOk bs rec n) (t : T_Term) (k : Nat) (to : Int) (met : List Bool) (out : List Int) (hl : met.length = bs.length) (hn : met.count false ≤ n) (hb : (out.length + met.count false) * 8 ≤ 140737488355328) :
    ∃ met' new,stepW rec t k to (met,out) = some (met',out ++ new) ∧ Wk bs met met' new ∧ Prd bs (fun v => v = to ∧ goV t k = true) new ∧ (goV t k = true → 0 ≤ to → to < (bs.length : Int) → met'[to.toNat]? = some true) := by
  unfold stepW;cases hg : goV t k
  · exact ⟨met,[],by simp,Wk.refl bs met,fun v h => by simp at h,fun h => by cases h⟩
  by_cases hin : 0 ≤ to ∧ to < (met.length : Int)
  · have hlt : to.toNat < met.length := by omega
    have hgd : met.getD to.toNat false = met[to.toNat] := by simp [List.getD,hlt]
    cases hm : met[to.toNat]
    · have hf : met[to.toNat]? = some false := by rw [List.getElem?_eq_getElem hlt,hm]
      obtain ⟨met',new,h1,h2,h3,h4⟩ := hr met out to.toNat hl hf hn hb;have ht : ((to.toNat : Nat) : Int) = to := by omega
      rw [ht] at h1 h3;refine ⟨met',new,?_,h2,fun v hv => ?_,fun _ h0 h1' => ?_⟩
      · simp only [hgd,hm,decide_eq_true hin,Bool.not_false,Bool.and_self,if_true]; exact h1
      · rcases h4 v hv with h | h
        · exact .inl ⟨by rw [h,ht],rfl⟩
        · exact .inr h
      · exact ((h2.mem to).mp h3).2.2
    · refine ⟨met,[],?_,Wk.refl bs met,fun v h => by simp at h,fun _ _ _ => by rw [List.getElem?_eq_getElem hlt,hm]⟩;simp only [hgd,hm,Bool.not_true,Bool.and_false,Bool.false_eq_true,if_false,List.append_nil]
  · refine ⟨met,[],?_,Wk.refl bs met,fun v h => by simp at h,fun _ h0 h1 => absurd ⟨h0,by rw [hl]; exact h1⟩ hin⟩;simp only [decide_eq_false hin,Bool.false_and,Bool.and_false,Bool.false_eq_true,if_false,List.append_nil]
theorem walk_ok (bs : List T_Block) : ∀ n,WalkOk bs (walkV bs n) n := by
  intro n
  induction n with
  | zero =>
    intro met out i hl hi hn;have : false ∈ met := List.mem_of_getElem? hi;have := List.count_pos_iff.mpr this
    omega
  | succ n ih =>
    intro met out i hl hi hn hb;have hil : i < met.length := (List.getElem?_eq_some_iff.mp hi).1;have hmi : met[i] = false := by rw [List.getElem?_eq_getElem hil] at hi; exact Option.some.inj hi
    have hbi : bs[i]? = some bs[i] := List.getElem?_eq_getElem (by omega)
    generalize bs[i] = b at hbi
    have hc : (met.set i true).count false + 1 = met.count false := by
      rw [List.count_set hil,hmi];have : 0 < met.count false := List.count_pos_iff.mpr (List.mem_of_getElem? hi)
      simp; omega
    have hl1 : (met.set i true).length = bs.length := by rw [List.length_set]; exact hl
    obtain ⟨m1,n1,e1,w1,p1,c1⟩ := step_ok ih b.fTerm 0 b.fTerm.fTo.a0 (met.set i true) out hl1 (by omega) (by omega);have k1 := w1.cnt;obtain ⟨m2,n2,e2,w2,p2,c2⟩ := step_ok ih b.fTerm 1 b.fTerm.fTo.a1 m1 (out ++ n1) (w1.len.trans hl1) (by omega) (by rw [List.length_append]; omega);have k2 := w2.cnt;have w := w1.trans w2;have hset : (met.set i true)[i]? = some true := by rw [List.getElem?_set_self hil]
    have hi2 : m2[i]? = some true := w.mono i hset;refine ⟨m2,(n1 ++ n2) ++ [(i : Int)],?_,⟨w.len.trans (by simp),fun v hv => ?_,fun v => ?_,?_,fun u hu x hx to he => ?_,List.nodup_append.2 ⟨w.nd,by simp,fun v hv v' hv' e => by
      have hv' := List.mem_singleton.1 hv';subst e; subst hv';have a := (w.mem _).1 hv;rw [Int.toNat_natCast,hset] at a;cases a.2.1⟩⟩,by simp,fun v hv => ?_⟩
    · unfold walkV;rw [upd_nat hil,Option.bind_some,idx_some hbi,Option.bind_some,e1,Option.bind_some,e2,Option.bind_some];have hm : more 8 (out ++ n1 ++ n2) [(i : Int)] = some (out ++ n1 ++ n2 ++ [(i : Int)]) := more_nat (by simp only [List.length_append,List.length_singleton]; omega);show (more 8 (out ++ n1 ++ n2) [(i : Int)]).map (fun o => (m2,o)) = _;rw [hm]
      simp
    · refine w.mono v ?_
      by_cases hvi : v = i
      · subst hvi; exact hset
      · rw [List.getElem?_set_ne (fun h => hvi h.symm)]; exact hv
    · rw [List.mem_append,w.mem,List.mem_singleton]
      constructor
      · rintro (⟨p,q,r⟩ | rfl)
        · refine ⟨p,?_,r⟩;have hne : i ≠ v.toNat := by rintro rfl; rw [hset] at q; cases q
          rwa [List.getElem?_set_ne hne] at q
        · exact ⟨by omega,by simpa using hi,by simpa using hi2⟩
      · rintro ⟨p,q,r⟩
        by_cases hvi : v.toNat = i
        · right; omega
        · left
          refine ⟨p,?_,r⟩;rw [List.getElem?_set_ne (fun h => hvi h.symm)]; exact q
    · have := w.cnt;rw [List.length_append,List.length_singleton]; omega
    · rcases List.mem_append.mp hu with h | h
      · exact w.clo u h x hx to he
      · rw [List.mem_singleton] at h; subst h;rw [Int.toNat_natCast,hbi] at hx; cases hx;obtain ⟨h0,h1,⟨g,rfl⟩ | ⟨g,rfl⟩⟩ := he
        · exact w2.mono _ (c1 g h0 h1)
        · exact c2 g h0 h1
    · rcases List.mem_append.mp hv with h | h
      · have hr : 0 ≤ v ∧ v < (bs.length : Int) := by
          have := (w.mem v).mp h;have h2 := (List.getElem?_eq_some_iff.mp this.2.1).1;rw [hl1] at h2;exact ⟨this.1,by omega⟩
        rcases (p1.app p2) v h with (⟨rfl,g⟩ | ⟨rfl,g⟩) | ⟨u,hu,x,hx,he⟩
        · exact .inr ⟨(i : Int),by simp,b,by simpa using hbi,hr.1,hr.2,.inl ⟨g,rfl⟩⟩
        · exact .inr ⟨(i : Int),by simp,b,by simpa using hbi,hr.1,hr.2,.inr ⟨g,rfl⟩⟩
        · exact .inr ⟨u,List.mem_append_left _ hu,x,hx,he⟩
      · rw [List.mem_singleton] at h; exact .inl h
end Go.Eng.Gra
namespace Go.Eng.Gra
open Go Go.Eng
set_option linter.unusedSectionVars false
set_option linter.unusedVariables false
set_option linter.unusedSimpArgs false
theorem next_nodup (b : T_Block) : (nextV b).Nodup := by
  unfold nextV
  split
  · simp
  · split
    · split
      · simp
      · rename_i h
        split
        · simp [h]
        · simp; exact fun e => h e.symm
    · simp
theorem next_mem (b : T_Block) (k : Int) : k ∈ nextV b ↔ ((goV b.fTerm 0 = true ∧ k = b.fTerm.fTo.a0) ∨ (goV b.fTerm 1 = true ∧ k = b.fTerm.fTo.a1)) := by
  unfold nextV goV
  by_cases h1 : b.fTerm.fKind = 1
  · simp [h1]
  · by_cases h2 : b.fTerm.fKind = 2
    · simp only [h1,h2,if_false,if_true]
      by_cases h3 : b.fTerm.fTo.a0 = b.fTerm.fTo.a1
      · simp [h3]
      · by_cases h4 : b.fTerm.fTo.a0 < b.fTerm.fTo.a1 <;> simp [h3,h4,or_comm]
    · simp [h1,h2]
def pk (bs : List T_Block) (k j : Nat) : Bool := match bs[j]? with | some b => decide ((k : Int) ∈ nextV b) | none => false
def rowP (bs : List T_Block) (i k : Nat) : List Int := ((List.range i).filter (pk bs k)).map (fun j : Nat => (j : Int))
theorem fold_get (n : Nat) (i : Int) : ∀ (l : List Int) (rows : List (List Int)) (k : Nat),l.Nodup → rows.length = n → k < n → (l.foldl (addR n i) rows)[k]? = (rows[k]?).map fun r => if (k : Int) ∈ l then r ++ [i] else r
  | [],rows,k,_,hl,hk => by simp
  | x :: l,rows,k,hnd,hl,hk => by
    rw [List.foldl_cons,fold_get n i l _ k (List.nodup_cons.mp hnd).2 (by rw [addR_len]; exact hl) hk];have hrk : rows[k]? = some rows[k] := List.getElem?_eq_getElem (by omega)
    by_cases hx : x = (k : Int)
    · subst hx;have hnl : ¬ (k : Int) ∈ l := (List.nodup_cons.mp hnd).1;rw [addR_in ⟨by omega,by omega⟩ (by simpa using by omega)]
      simp [hrk,hnl,show k < rows.length by omega]
    · have he : (addR n i rows x)[k]? = rows[k]? := by
        unfold addR; split
        · rw [List.getElem?_set_ne (by omega)]
        · rfl
      rw [he,hrk];have : ((k : Int) ∈ x :: l) ↔ (k : Int) ∈ l := List.mem_cons.trans ⟨fun h => h.resolve_left (fun e => hx e.symm),.inr⟩;simp only [Option.map_some,this]
theorem ahead_row (bs : List T_Block) : ∀ (i k : Nat),i ≤ bs.length → k < bs.length → (aheadS bs i)[k]? = some (rowP bs i k)
  | 0,k,_,hk => by simp [aheadS,rowP,hk]
  | i + 1,k,hi,hk => by
    have ih := ahead_row bs i k (by omega) hk;have hb : bs[i]? = some bs[i] := List.getElem?_eq_getElem (by omega);rw [aheadS_step hb,fold_get _ _ _ _ _ (next_nodup _) (aheadS_len bs i) hk,ih,Option.map_some];unfold rowP;rw [List.range_succ,List.filter_append,List.map_append];have hp : pk bs k i = decide ((k : Int) ∈ nextV bs[i]) := by unfold pk; rw [hb]
    by_cases hm : (k : Int) ∈ nextV bs[i]
    · rw [if_pos hm]; simp [hp,hm]
    · rw [if_neg hm]; simp [hp,hm]
theorem row_mem {bs : List T_Block} {k : Nat} {u : Int} : u ∈ rowP bs bs.length k ↔ ∃ b,0 ≤ u ∧ bs[u.toNat]? = some b ∧ (k : Int) ∈ nextV b := by
  unfold rowP;rw [List.mem_map]
  constructor
  · rintro ⟨j,hj,rfl⟩;rw [List.mem_filter] at hj;obtain ⟨h1,h2⟩ := hj;unfold pk at h2
    split at h2
    · rename_i b hb; exact ⟨b,by omega,by simpa using hb,of_decide_eq_true h2⟩
    · cases h2
  · rintro ⟨b,h0,hb,hm⟩;refine ⟨u.toNat,?_,by omega⟩;rw [List.mem_filter,List.mem_range];exact ⟨(List.getElem?_eq_some_iff.mp hb).1,by unfold pk; rw [hb]; exact decide_eq_true hm⟩
theorem row_up (bs : List T_Block) (i k : Nat) : (rowP bs i k).Pairwise (· < ·) := by
  unfold rowP;rw [List.pairwise_map];exact (List.Pairwise.filter _ List.pairwise_lt_range).imp (fun h => by omega)
def tot (rows : List (List Int)) : Nat := (rows.map List.length).sum
theorem tot_set : ∀ (l : List (List Int)) (j : Nat) (x : List Int) (h : j < l.length),tot (l.set j x) + l[j].length = tot l + x.length
  | [],j,x,h => by simp at h
  | a :: l,0,x,h => by simp [tot]; omega
  | a :: l,j + 1,x,h => by
    have := tot_set l j x (by simpa using h);simp only [tot,List.set_cons_succ,List.map_cons,List.sum_cons,List.getElem_cons_succ] at this ⊢
    omega
def inR (n : Nat) (k : Int) : Bool := decide (0 ≤ k ∧ k < (n : Int))
theorem tot_add {n : Nat} {i : Int} {rows : List (List Int)} (hl : rows.length = n) (k : Int) : tot (addR n i rows k) = tot rows + (if inR n k = true then 1 else 0) := by
  by_cases h : 0 ≤ k ∧ k < (n : Int)
  · have hk : k.toNat < rows.length := by omega
    rw [addR_in h hk];have := tot_set rows k.toNat (rows[k.toNat] ++ [i]) hk;rw [List.length_append,List.length_singleton] at this;simp only [inR,decide_eq_true h,if_true]; omega
  · rw [addR_out h]; simp [inR,h]
theorem tot_fold {n : Nat} {i : Int} : ∀ (l : List Int) {rows : List (List Int)} (hl : rows.length = n),tot (l.foldl (addR n i) rows) = tot rows + l.countP (inR n)
  | [],rows,hl => by simp
  | x :: l,rows,hl => by
    rw [List.foldl_cons,tot_fold l (by rw [addR_len]; exact hl),tot_add hl,List.countP_cons]; omega
def eds (bs : List T_Block) : Nat → Nat
  | 0 => 0
  | i + 1 => eds bs i + match bs[i]? with | some b => (nextV b).countP (inR bs.length) | none => 0
theorem tot_ahead (bs : List T_Block) : ∀ i,i ≤ bs.length → tot (aheadS bs i) = eds bs i
  | 0,_ => by simp [aheadS,eds,tot]
  | i + 1,hi => by
    have hb : bs[i]? = some bs[i] := List.getElem?_eq_getElem (by omega);rw [aheadS_step hb,tot_fold _ (aheadS_len bs i),tot_ahead bs i (by omega)];simp only [eds,hb]
theorem eds_le (bs : List T_Block) : ∀ i,eds bs i ≤ 2 * i
  | 0 => by simp [eds]
  | i + 1 => by
    have := eds_le bs i;simp only [eds]
    split
    · rename_i b _
      have h1 := next_le b;have h2 : (nextV b).countP (inR bs.length) ≤ (nextV b).length := List.countP_le_length
      omega
    · omega
end Go.Eng.Gra
