/- Functions of this seat, run on unknown values by the rules of the small machine (no condition beyond those stated). -/
import Derived.Test.YtolhfdcgmcaglaaDoorEngTUp
import Derived.Test.YtolhfdcgmcaglaaDoorCodF
namespace Go.Eng
open Go
set_option linter.unusedSectionVars false
set_option linter.unusedVariables false
set_option linter.unusedSimpArgs false
def Ok {σ R A : Type} (I : Nat → σ → Prop) (m : Nat) (P : Out R A → Prop) : Stp σ R A → Prop
  | .next s => ∃ m',m' < m ∧ I m' s
  | .ret r => P (.ret r)
  | .go a => P (.go a)
theorem iter_ok {σ R A : Type} {f : σ → Option (Stp σ R A)} {I : Nat → σ → Prop} {P : Out R A → Prop} (h : ∀ m s,I m s → ∃ t,f s = some t ∧ Ok I m P t) : ∀ (n m : Nat) (s : σ),I m s → m < n → ∃ o,iter f n s = some o ∧ P o
  | 0,m,s,_,hm => by omega
  | n + 1,m,s,hI,hm => by
    obtain ⟨t,ht,hok⟩ := h m s hI;rw [iter_succ,ht];cases t with
    | next s' =>
      obtain ⟨m',hm',hI'⟩ := hok;exact iter_ok h n m' s' hI' (by omega)
    | ret r => exact ⟨_,rfl,hok⟩
    | go a => exact ⟨_,rfl,hok⟩
theorem iter_eq {σ R A : Type} {f : σ → Option (Stp σ R A)} (I : Nat → σ → Prop) (o : Out R A) (h : ∀ m s,I m s → ∃ t,f s = some t ∧ Ok I m (· = o) t) {m : Nat} {s : σ} (hI : I m s) (hm : m < 4611686018427387904) : iter f FUEL s = some o := by
  obtain ⟨o',h1,rfl⟩ := iter_ok h FUEL m s hI (by unfold FUEL; exact hm);exact h1
theorem wsucc' {x : Int} (h0 : 0 ≤ x) (h1 : x ≤ 4611686018427387904) : IntKind.i64.wrap (x + 1) = x + 1 := wrap64_in (by omega) (by omega)
theorem wnat {x : Nat} (h1 : x ≤ 4611686018427387904) : IntKind.i64.wrap ((x : Int) + 1) = ((x + 1 : Nat) : Int) := by rw [wsucc' (by omega) (by omega)]; rfl
theorem idx_nat {α : Type} {l : List α} {i : Nat} : idx l (i : Int) = l[i]? := by
  unfold idx; rw [if_pos (by omega),Int.toNat_natCast]
theorem idx_get {α : Type} {l : List α} {i : Nat} (h : i < l.length) : idx l (i : Int) = some l[i] := by rw [idx_nat,List.getElem?_eq_getElem h]
theorem idx_some {α : Type} {l : List α} {i : Nat} {a : α} (h : l[i]? = some a) : idx l (i : Int) = some a := by rw [idx_nat,h]
theorem part_nat {α : Type} {l : List α} {a b : Nat} (h : a ≤ b) (hb : b ≤ l.length) : part l (a : Int) (b : Int) = some ((l.drop a).take (b - a)) := by
  unfold part;rw [if_pos ⟨by omega,by omega,by omega⟩,Int.toNat_natCast,Int.toNat_natCast,List.drop_take]
theorem more_nat {α : Type} {by_ : Nat} {l r : List α} (h : (l.length + r.length) * by_ ≤ 140737488355328) : more by_ l r = some (l ++ r) := by unfold more; rw [if_pos h]
theorem upd_nat {α : Type} {l : List α} {i : Nat} {a : α} (h : i < l.length) : upd l (i : Int) a = some (l.set i a) := by
  unfold upd; rw [if_pos ⟨by omega,by omega⟩,Int.toNat_natCast]
theorem made_nat {α : Type} {by_ : Nat} {a : α} {n : Nat} (h : n * by_ ≤ 140737488355328) (hn : n < 9223372036854775808) : made by_ a (n : Int) = some (List.replicate n a) := by
  unfold made;have e : (n : Int) * (by_ : Int) = ((n * by_ : Nat) : Int) := by simp
  rw [if_pos ⟨by omega,by rw [e]; omega,by omega⟩,Int.toNat_natCast]
theorem scat_of {a b : List UInt8} (h : a.length + b.length ≤ 4611686018427387904) : scat a b = some (a ++ b) := by unfold scat; rw [if_pos h]
def nums (l : List UInt8) : List Int := l.map fun b => (b.toNat : Int)
theorem nums_len (l : List UInt8) : (nums l).length = l.length := by simp [nums]
theorem bstr_nums : ∀ (l : List UInt8),bstr (nums l) = some l
  | [] => rfl
  | b :: l => by
    have ih := bstr_nums l;unfold bstr at ih ⊢;simp only [nums,List.map_cons,omap] at ih ⊢;have hb := b.toNat_lt;rw [ih,if_pos (by omega)]
    simp
end Go.Eng
namespace Go.Eng
open Go
set_option linter.unusedSectionVars false
set_option linter.unusedVariables false
set_option linter.unusedSimpArgs false
def first {α R : Type} (p : Nat → α → Option R) : Nat → List α → Option R
  | _,[] => none
  | i,a :: l => match p i a with
    | some r => some r
    | none => first p (i + 1) l
def runs {α σ R : Type} (p : Nat → σ → α → R ⊕ σ) : Nat → σ → List α → R ⊕ σ
  | _,s,[] => .inr s
  | i,s,a :: l => match p i s a with
    | .inl r => .inl r
    | .inr s' => runs p (i + 1) s' l
def allI {α : Type} (q : Nat → α → Bool) : Nat → List α → Bool
  | _,[] => true
  | i,a :: l => q i a && allI q (i + 1) l
theorem allI_const {α : Type} (q : α → Bool) : ∀ (i : Nat) (l : List α),allI (fun _ a => q a) i l = l.all q
  | _,[] => rfl
  | i,a :: l => by rw [allI,allI_const q (i + 1) l]; rfl
theorem allI_and {α : Type} (q q' : Nat → α → Bool) : ∀ (i : Nat) (l : List α),allI (fun i a => q i a && q' i a) i l = (allI q i l && allI q' i l)
  | _,[] => rfl
  | i,a :: l => by rw [allI,allI,allI,allI_and q q' (i + 1) l]; cases q i a <;> cases q' i a <;> simp
theorem allI_congr {α : Type} {q q' : Nat → α → Bool} : ∀ (i : Nat) (l : List α),(∀ j a,l[j]? = some a → q (i + j) a = q' (i + j) a) → allI q i l = allI q' i l
  | _,[],_ => rfl
  | i,a :: l,h => by
    have h1 : allI q (i + 1) l = allI q' (i + 1) l := allI_congr (i + 1) l (fun j b hb => by
      have h2 := h (j + 1) b (by simpa using hb);have e : i + (j + 1) = i + 1 + j := by omega
      rw [e] at h2;exact h2)
    have h3 := h 0 a rfl;rw [Nat.add_zero] at h3;simp only [allI,h1,h3]
def outOf {R σ A : Type} (fin : σ → A) : R ⊕ σ → Out R A
  | .inl r => .ret r
  | .inr s => .go (fin s)
def stpOf {R σ S A : Type} (mk : σ → S) : R ⊕ σ → Stp S R A
  | .inl r => .ret r
  | .inr s => .next (mk s)
theorem loop_st {α σ S R A : Type} {l : List α} {f : S → Option (Stp S R A)} (mk : σ → Int → S) (fin : σ → A) (p : Nat → σ → α → R ⊕ σ) (Inv : Nat → σ → Prop) (hl : l.length < 4611686018427387904)
    (hin : ∀ (i : Nat) (s : σ) (a : α),Inv i s → l[i]? = some a → (f (mk s (i : Int)) = some (stpOf (fun s' => mk s' ((i + 1 : Nat) : Int)) (p i s a))) ∧ ∀ s',p i s a = .inr s' → Inv (i + 1) s')
    (hout : ∀ s,Inv l.length s → f (mk s (l.length : Int)) = some (.go (fin s))) {s : σ} (h0 : Inv 0 s) :
    iter f FUEL (mk s 0) = some (outOf fin (runs p 0 s l)) := by
  have key : ∀ (k i n : Nat) (s : σ),i + k = l.length → k < n → Inv i s → iter f n (mk s (i : Int)) = some (outOf fin (runs p i s (l.drop i))) := by
    intro k
    induction k with
    | zero =>
      intro i n s hi hn hI;obtain ⟨m,rfl⟩ : ∃ m,n = m + 1 := ⟨n - 1,by omega⟩;have : i = l.length := by omega
      subst this;rw [iter_succ,hout s hI,List.drop_length]; rfl
    | succ k ih =>
      intro i n s hi hn hI;obtain ⟨m,rfl⟩ : ∃ m,n = m + 1 := ⟨n - 1,by omega⟩;have hil : i < l.length := by omega
      obtain ⟨h1,h2⟩ := hin i s l[i] hI (List.getElem?_eq_getElem hil);rw [iter_succ,h1,List.drop_eq_getElem_cons hil,runs];cases hp : p i s l[i] with
      | inl r => rfl
      | inr s' => exact ih (i + 1) m s' (by omega) (by omega) (h2 s' hp)
  have := key l.length 0 FUEL s (by omega) (by unfold FUEL; omega) h0
  simpa using this
def outF {R A : Type} (a0 : A) : Option R → Out R A
  | some r => .ret r
  | none => .go a0
theorem loop_first {α R A : Type} {l : List α} {f : Int → Option (Stp Int R A)} {a0 : A} (p : Nat → α → Option R) (hl : l.length < 4611686018427387904)
    (hin : ∀ (i : Nat) (a : α),l[i]? = some a → f (i : Int) = some (match p i a with | some r => .ret r | none => .next ((i + 1 : Nat) : Int)))
    (hout : f (l.length : Int) = some (.go a0)) : iter f FUEL 0 = some (outF a0 (first p 0 l)) := by
  have key : ∀ (k i n : Nat),i + k = l.length → k < n → iter f n (i : Int) = some (outF a0 (first p i (l.drop i))) := by
    intro k
    induction k with
    | zero =>
      intro i n hi hn;obtain ⟨m,rfl⟩ : ∃ m,n = m + 1 := ⟨n - 1,by omega⟩;have : i = l.length := by omega
      subst this;rw [iter_succ,hout,List.drop_length]; rfl
    | succ k ih =>
      intro i n hi hn;obtain ⟨m,rfl⟩ : ∃ m,n = m + 1 := ⟨n - 1,by omega⟩;have hil : i < l.length := by omega
      rw [iter_succ,hin i l[i] (List.getElem?_eq_getElem hil),List.drop_eq_getElem_cons hil,first];cases hp : p i l[i] with
      | some r => rfl
      | none => exact ih (i + 1) m (by omega) (by omega)
  have := key l.length 0 FUEL (by omega) (by unfold FUEL; omega)
  simpa using this
theorem loop_all {α R A : Type} {l : List α} {f : Int → Option (Stp Int R A)} {a0 : A} {r0 : R} (q : Nat → α → Bool) (hl : l.length < 4611686018427387904)
    (hin : ∀ (i : Nat) (a : α),l[i]? = some a → f (i : Int) = some (if q i a then .next ((i + 1 : Nat) : Int) else .ret r0))
    (hout : f (l.length : Int) = some (.go a0)) : iter f FUEL 0 = some (if allI q 0 l then .go a0 else .ret r0) := by
  rw [loop_first (a0 := a0) (fun i a => if q i a then none else some r0) hl (fun i a h => by rw [hin i a h]; cases q i a <;> rfl) hout];have : ∀ (l : List α) (i : Nat),first (fun i a => if q i a then none else some r0) i l = if allI q i l then none else some r0 := by
    intro l
    induction l with
    | nil => intro i; rfl
    | cons a l ih =>
      intro i;rw [first,allI];cases q i a
      · rfl
      · rw [Bool.true_and]; exact ih (i + 1)
  rw [this];cases allI q 0 l <;> rfl
theorem loop_find {α : Type} {l : List α} {f : Int → Option (Stp Int Int Unit)} (q : α → Bool) (hl : l.length < 4611686018427387904)
    (hin : ∀ (i : Nat) (a : α),l[i]? = some a → f (i : Int) = some (if q a then .ret (i : Int) else .next ((i + 1 : Nat) : Int)))
    (hout : f (l.length : Int) = some (.go ())) : ∃ r : Int,((iter f FUEL 0).bind fun o => match o with | .ret r => some r | .go () => some (-1)) = some r ∧ decide (r ≥ 0) = l.any q := by
  rw [loop_first (a0 := ()) (fun i a => if q a then some (i : Int) else none) hl (fun i a h => by rw [hin i a h]; cases q a <;> rfl) hout];have : ∀ (l : List α) (i : Nat),(first (fun i a => if q a then some ((i : Nat) : Int) else none) i l = none ∧ l.any q = false) ∨ ∃ k : Nat,first (fun i a => if q a then some ((i : Nat) : Int) else none) i l = some (k : Int) ∧ l.any q = true := by
    intro l
    induction l with
    | nil => intro i; exact .inl ⟨rfl,rfl⟩
    | cons a l ih =>
      intro i;rw [first,List.any_cons];cases q a
      · rw [Bool.false_or]; exact ih (i + 1)
      · exact .inr ⟨i,rfl,rfl⟩
  rcases this l 0 with ⟨h1,h2⟩ | ⟨k,h1,h2⟩
  · exact ⟨-1,by rw [h1]; rfl,by rw [h2]; rfl⟩
  · exact ⟨k,by rw [h1]; rfl,by rw [h2]; exact decide_eq_true (by omega)⟩
end Go.Eng
namespace Go.Eng.Cod
open Go Go.Eng
set_option linter.unusedSectionVars false
set_option linter.unusedVariables false
set_option linter.unusedSimpArgs false
def rb (x n : Int) : Bool := decide (0 ≤ x) && decide (x < n)
theorem F59_is (n x : Int) : F59 n x = some (rb x n) := by unfold F59 rb; by_cases h : 0 ≤ x <;> simp [h]
theorem F49_is (x n : Int) : F49 x n = some (rb x n) := by unfold F49 rb; by_cases h : 0 ≤ x <;> simp [h]
theorem F45_is (x : Int) : F45 x = some (rb x 8) := by unfold F45; rw [F49_is]; rfl
def ty (t : Int) : Bool := decide (1 ≤ t) && decide (t ≤ 5)
theorem F24_is (t : Int) : F24 t = some (ty t) := by unfold F24 ty; by_cases h : 1 ≤ t <;> simp [h]
theorem F26_is (t : Int) : F26 t = some (ty t) := by unfold F26 ty; by_cases h : 1 ≤ t <;> simp [h]
def sg (op : Int) : Bool := op == 17 || op == 18
theorem F56_is (op : Int) : F56 op = some (sg op) := by unfold F56 sg; cases op == 17 <;> rfl
theorem F47_is (op : Int) : F47 op = some (sg op) := by unfold F47 sg; cases op == 17 <;> rfl
def rowV (b c f : Int) : Bool := decide (b ≥ 1) && (decide (b ≤ 256) && (decide (c ≥ 0) && decide (c ≤ IntKind.i64.wrap (f - IntKind.i64.wrap b))))
theorem F50_is (x : T_Code) (f : Int) : F50 x f = some (rowV x.fBits x.fC f) := by
  unfold F50 rowV;cases decide (x.fBits ≥ 1) <;> cases decide (x.fBits ≤ 256) <;> cases decide (x.fC ≥ 0) <;> rfl
theorem F40_is (k : Int) : F40 k = some (decide (1 ≤ k ∧ k ≤ 17)) := by unfold F40; by_cases h : 1 ≤ k <;> simp [h]
theorem beq_f {a b : Int} (h : a ≠ b) : (a == b) = false := by simp [h]
theorem bne_not (a b : Int) : (a != b) = !(a == b) := rfl
theorem F58_is (t : Int) : F58 t = some (decide (2 ≤ t ∧ t ≤ 4)) := by
  unfold F58
  by_cases h2 : t = 2
  · subst h2; rfl
  by_cases h3 : t = 3
  · subst h3; rfl
  by_cases h4 : t = 4
  · subst h4; rfl
  rw [beq_f h2,beq_f h3,beq_f h4];have : ¬ (2 ≤ t ∧ t ≤ 4) := by omega
  rw [decide_eq_false this]; rfl
theorem beq_dec (a b : Int) : (a == b) = decide (a = b) := by by_cases h : a = b <;> simp [h]
theorem turns_eq (a b : Int) : F41 a b = F48 a b := by
  have e : F48 a b = some (decide (2 ≤ a ∧ a ≤ 5) && decide (2 ≤ b ∧ b ≤ 5)) := by
    unfold F48
    by_cases h1 : 2 ≤ a <;> by_cases h2 : a ≤ 5 <;> by_cases h3 : 2 ≤ b <;> by_cases h4 : b ≤ 5 <;> simp [h1,h2,h3,h4]
  rw [e];unfold F41;simp only [F58_is,Option.bind_some]
  by_cases h1 : 2 ≤ a ∧ a ≤ 4
  · rw [decide_eq_true h1,decide_eq_true (show 2 ≤ a ∧ a ≤ 5 by omega)];simp only [if_true,Bool.true_and]
    by_cases h2 : 2 ≤ b ∧ b ≤ 4
    · rw [decide_eq_true h2,decide_eq_true (show 2 ≤ b ∧ b ≤ 5 by omega)]; rfl
    · rw [decide_eq_false h2,beq_dec];simp only [Bool.false_eq_true,if_false]
      congr 1; exact decide_eq_decide.mpr (by omega)
  · rw [decide_eq_false h1];simp only [Bool.false_eq_true,if_false]
    by_cases h5 : a = 5
    · subst h5;simp only [beq_self_eq_true,if_true]
      by_cases h2 : 2 ≤ b ∧ b ≤ 4
      · rw [decide_eq_true h2,decide_eq_true (show 2 ≤ b ∧ b ≤ 5 by omega)]; rfl
      · rw [decide_eq_false h2,beq_dec];simp only [Bool.false_eq_true,if_false]
        congr 1; simp only [show decide ((2 : Int) ≤ 5 ∧ (5 : Int) ≤ 5) = true from rfl,Bool.true_and]; exact decide_eq_decide.mpr (by omega)
    · rw [beq_f h5,decide_eq_false (show ¬ (2 ≤ a ∧ a ≤ 5) by omega)]; rfl
theorem turns_some (a b : Int) : ∃ v,F48 a b = some v := by
  unfold F48
  repeat' split
  all_goals exact ⟨_,rfl⟩
theorem of_eq (op t : Int) : ∃ r : Int × Bool,F42 op t = some r ∧ ∃ q : Int × Bool,F46 op t = some q ∧ q.2 = r.2 := by
  by_cases q1 : t < 1
  · refine ⟨(0,false),?_,(0,false),?_,rfl⟩
    · unfold F42; rw [decide_eq_true q1]; rfl
    · unfold F46; rw [decide_eq_true q1]; rfl
  by_cases q2 : t > 5
  · refine ⟨(0,false),?_,(0,false),?_,rfl⟩
    · unfold F42; rw [decide_eq_false q1,decide_eq_true q2]; rfl
    · unfold F46; rw [decide_eq_false q1,decide_eq_true q2]; rfl
  by_cases q3 : 1 ≤ op ∧ op ≤ 18
  · have ht : t = 1 ∨ t = 2 ∨ t = 3 ∨ t = 4 ∨ t = 5 := by omega
    have ho : op = 1 ∨ op = 2 ∨ op = 3 ∨ op = 4 ∨ op = 5 ∨ op = 6 ∨ op = 7 ∨ op = 8 ∨ op = 9 ∨ op = 10 ∨ op = 11 ∨ op = 12 ∨ op = 13 ∨ op = 14 ∨ op = 15 ∨ op = 16 ∨ op = 17 ∨ op = 18 := by omega
    rcases ht with rfl | rfl | rfl | rfl | rfl <;>
      rcases ho with rfl | rfl | rfl | rfl | rfl | rfl | rfl | rfl | rfl | rfl | rfl | rfl | rfl | rfl | rfl | rfl | rfl | rfl <;>
      exact ⟨_,rfl,_,rfl,rfl⟩
  · have ne : ∀ k : Int,1 ≤ k → k ≤ 18 → (op == k) = false := by
      intro k h1 h2;have : op ≠ k := by omega
      simp [this]
    refine ⟨(0,false),?_,(0,false),?_,rfl⟩
    · unfold F42;rw [decide_eq_false q1,decide_eq_false q2];rw [ne 1 (by decide) (by decide),ne 2 (by decide) (by decide),ne 3 (by decide) (by decide),ne 4 (by decide) (by decide),ne 5 (by decide) (by decide),ne 6 (by decide) (by decide),ne 7 (by decide) (by decide),ne 8 (by decide) (by decide),ne 9 (by decide) (by decide),ne 10 (by decide) (by decide),ne 11 (by decide) (by decide),ne 12 (by decide) (by decide),ne 13 (by decide) (by decide),ne 14 (by decide) (by decide),ne 15 (by decide) (by decide),ne 16 (by decide) (by decide),ne 17 (by decide) (by decide),ne 18 (by decide) (by decide)]
      rfl
    · unfold F46 F46_j2 F46_j3 F46_j4 F46_j5 F46_j6 F46_j1;rw [decide_eq_false q1,decide_eq_false q2];simp only [ne 1 (by decide) (by decide),ne 2 (by decide) (by decide),ne 3 (by decide) (by decide),ne 4 (by decide) (by decide),ne 5 (by decide) (by decide),ne 6 (by decide) (by decide),ne 7 (by decide) (by decide),ne 8 (by decide) (by decide),ne 9 (by decide) (by decide),ne 10 (by decide) (by decide),ne 11 (by decide) (by decide),ne 12 (by decide) (by decide),ne 13 (by decide) (by decide),ne 14 (by decide) (by decide),ne 15 (by decide) (by decide),ne 16 (by decide) (by decide),ne 17 (by decide) (by decide),ne 18 (by decide) (by decide),Bool.false_eq_true,if_false]
end Go.Eng.Cod
namespace Go.Eng.Cod
open Go Go.Eng
set_option linter.unusedSectionVars false
set_option linter.unusedVariables false
set_option linter.unusedSimpArgs false
set_option maxRecDepth 20000
theorem lt_not (a b : Int) : decide (a < b) = !decide (b ≤ a) := by by_cases h : a < b <;> simp [h] <;> omega
theorem g1 : idx G0 (1 : Int) = some ⟨1,0,0,false,false,false,false,true,false⟩ := rfl
theorem g2 : idx G0 (2 : Int) = some ⟨1,1,0,false,false,false,false,false,false⟩ := rfl
theorem g3 : idx G0 (3 : Int) = some ⟨1,1,7,true,true,false,false,false,false⟩ := rfl
theorem g4 : idx G0 (4 : Int) = some ⟨1,1,0,false,true,true,false,false,false⟩ := rfl
theorem g5 : idx G0 (5 : Int) = some ⟨1,2,0,false,false,false,false,false,false⟩ := rfl
theorem g6 : idx G0 (6 : Int) = some ⟨2,1,0,false,false,false,false,false,false⟩ := rfl
theorem g7 : idx G0 (7 : Int) = some ⟨1,1,0,false,false,false,false,false,true⟩ := rfl
theorem g8 : idx G0 (8 : Int) = some ⟨1,1,0,false,false,false,false,false,true⟩ := rfl
theorem g9 : idx G0 (9 : Int) = some ⟨0,0,0,false,false,false,false,false,true⟩ := rfl
theorem g10 : idx G0 (10 : Int) = some ⟨1,4,0,false,false,false,false,false,false⟩ := rfl
theorem g11 : idx G0 (11 : Int) = some ⟨5,1,0,false,false,false,false,false,false⟩ := rfl
theorem g12 : idx G0 (12 : Int) = some ⟨6,0,0,false,false,false,false,false,false⟩ := rfl
theorem g13 : idx G0 (13 : Int) = some ⟨1,0,0,false,true,false,false,false,false⟩ := rfl
theorem g14 : idx G0 (14 : Int) = some ⟨3,0,0,false,false,false,false,false,false⟩ := rfl
theorem g15 : idx G0 (15 : Int) = some ⟨1,3,3,false,false,false,false,false,false⟩ := rfl
theorem g16 : idx G0 (16 : Int) = some ⟨1,0,0,false,false,false,false,false,false⟩ := rfl
theorem g17 : idx G0 (17 : Int) = some ⟨0,0,0,false,false,false,true,false,false⟩ := rfl
def Same (x : T_Code) (u : T_Unit) (n : Int) : Prop := ∃ b,F25 x u n = some b ∧ F27 x u n = some b
theorem same_0 (k op ty to tr a b c bits : Int) (u : T_Unit) (n : Int) (hk : k = 1 ∨ k = 2 ∨ k = 3) : Same ⟨k,op,ty,to,tr,a,b,c,bits⟩ u n := by
  unfold Same;obtain ⟨r42,h42,r46,h46,hof⟩ := of_eq op ty;obtain ⟨v48,h48⟩ := turns_some to ty;have h41 := (turns_eq to ty).trans h48;rcases hk with rfl | rfl | rfl
  all_goals simp only [F25,F25_j1,F25_j2,F25_j3,F25_j4,F25_j5,F25_j6,F25_j7,F25_j8,F25_j9,F43,F40_is,F56_is,F59_is,g1,g2,g3,g4,g5,g6,g7,g8,g9,g10,g11,g12,g13,g14,g15,g16,g17,F27,F27_j1,F27_j2,F44,F44_j1,F44_j2,F44_j3,F44_j4,F44_j5,F44_j6,F45_is,F49_is,F50_is,F26_is,F47_is,h42,h46,hof,h41,h48,rowV,Go.Eng.Cod.ty,ge_iff_le,gt_iff_lt,lt_not,Int.reduceBEq,Int.reduceLE,and_self,decide_true,Option.bind_some,Bool.not_true,Bool.false_eq_true,if_false,if_true,bne_not,Bool.not_not,Bool.not_false,beq_self_eq_true]
  all_goals
    generalize (op == 0) = p1
    generalize (ty == 0) = p2
    generalize (to == 0) = p3
    generalize (tr == 0) = p4
    generalize (a == 0) = p5
    generalize (b == 0) = p6
    generalize (c == 0) = p7
    generalize (bits == 0) = p8
  · generalize rb a 8 = q1
    cases p1 <;> cases p2 <;> cases p3 <;> cases p4 <;> cases p6 <;> cases p7 <;> cases q1 <;> exact ⟨_,rfl,rfl⟩
  · generalize rb a 8 = q1
    generalize rb b 8 = q2
    cases p1 <;> cases p2 <;> cases p3 <;> cases p4 <;> cases p7 <;> cases p8 <;> cases q1 <;> cases q2 <;> exact ⟨_,rfl,rfl⟩
  · generalize r42.2 = q1
    generalize sg op = q2
    generalize rb a 8 = q3
    generalize rb b 8 = q4
    generalize rb c 8 = q5
    cases p3 <;> cases p4 <;> cases p7 <;> cases p8 <;> cases q1 <;> cases q2 <;> cases q3 <;> cases q4 <;> cases q5 <;> exact ⟨_,rfl,rfl⟩
theorem same_1 (k op ty to tr a b c bits : Int) (u : T_Unit) (n : Int) (hk : k = 4 ∨ k = 5 ∨ k = 6) : Same ⟨k,op,ty,to,tr,a,b,c,bits⟩ u n := by
  unfold Same;obtain ⟨r42,h42,r46,h46,hof⟩ := of_eq op ty;obtain ⟨v48,h48⟩ := turns_some to ty;have h41 := (turns_eq to ty).trans h48;rcases hk with rfl | rfl | rfl
  all_goals simp only [F25,F25_j1,F25_j2,F25_j3,F25_j4,F25_j5,F25_j6,F25_j7,F25_j8,F25_j9,F43,F40_is,F56_is,F59_is,g1,g2,g3,g4,g5,g6,g7,g8,g9,g10,g11,g12,g13,g14,g15,g16,g17,F27,F27_j1,F27_j2,F44,F44_j1,F44_j2,F44_j3,F44_j4,F44_j5,F44_j6,F45_is,F49_is,F50_is,F26_is,F47_is,h42,h46,hof,h41,h48,rowV,Go.Eng.Cod.ty,ge_iff_le,gt_iff_lt,lt_not,Int.reduceBEq,Int.reduceLE,and_self,decide_true,Option.bind_some,Bool.not_true,Bool.false_eq_true,if_false,if_true,bne_not,Bool.not_not,Bool.not_false,beq_self_eq_true]
  all_goals
    generalize (op == 0) = p1
    generalize (ty == 0) = p2
    generalize (to == 0) = p3
    generalize (tr == 0) = p4
    generalize (a == 0) = p5
    generalize (b == 0) = p6
    generalize (c == 0) = p7
    generalize (bits == 0) = p8
  · generalize v48 = q1
    generalize rb a 8 = q2
    generalize rb b 8 = q3
    cases p1 <;> cases p4 <;> cases p7 <;> cases p8 <;> cases q1 <;> cases q2 <;> cases q3 <;> exact ⟨_,rfl,rfl⟩
  · generalize rb a 8 = q1
    generalize rb b u.fFrame = q2
    cases p1 <;> cases p2 <;> cases p3 <;> cases p4 <;> cases p7 <;> cases p8 <;> cases q1 <;> cases q2 <;> exact ⟨_,rfl,rfl⟩
  · generalize rb a u.fFrame = q1
    generalize rb b 8 = q2
    cases p1 <;> cases p2 <;> cases p3 <;> cases p4 <;> cases p7 <;> cases p8 <;> cases q1 <;> cases q2 <;> exact ⟨_,rfl,rfl⟩
theorem same_2 (k op ty to tr a b c bits : Int) (u : T_Unit) (n : Int) (hk : k = 7) : Same ⟨k,op,ty,to,tr,a,b,c,bits⟩ u n := by
  unfold Same;obtain ⟨r42,h42,r46,h46,hof⟩ := of_eq op ty;obtain ⟨v48,h48⟩ := turns_some to ty;have h41 := (turns_eq to ty).trans h48;subst hk
  all_goals simp only [F25,F25_j1,F25_j2,F25_j3,F25_j4,F25_j5,F25_j6,F25_j7,F25_j8,F25_j9,F43,F40_is,F56_is,F59_is,g1,g2,g3,g4,g5,g6,g7,g8,g9,g10,g11,g12,g13,g14,g15,g16,g17,F27,F27_j1,F27_j2,F44,F44_j1,F44_j2,F44_j3,F44_j4,F44_j5,F44_j6,F45_is,F49_is,F50_is,F26_is,F47_is,h42,h46,hof,h41,h48,rowV,Go.Eng.Cod.ty,ge_iff_le,gt_iff_lt,lt_not,Int.reduceBEq,Int.reduceLE,and_self,decide_true,Option.bind_some,Bool.not_true,Bool.false_eq_true,if_false,if_true,bne_not,Bool.not_not,Bool.not_false,beq_self_eq_true]
  all_goals
    generalize (op == 0) = p1
    generalize (ty == 0) = p2
    generalize (to == 0) = p3
    generalize (tr == 0) = p4
    generalize (a == 0) = p5
    generalize (b == 0) = p6
    generalize (c == 0) = p7
    generalize (bits == 0) = p8
  · generalize decide (1 ≤ bits) = q1
    generalize decide (bits ≤ 256) = q2
    generalize decide (0 ≤ c) = q3
    generalize decide (c ≤ IntKind.i64.wrap (u.fFrame - IntKind.i64.wrap bits)) = q4
    generalize rb a 8 = q5
    generalize rb b 8 = q6
    cases p1 <;> cases p2 <;> cases p3 <;> cases p4 <;> cases q1 <;> cases q2 <;> cases q3 <;> cases q4 <;> cases q5 <;> cases q6 <;> exact ⟨_,rfl,rfl⟩
theorem same_3 (k op ty to tr a b c bits : Int) (u : T_Unit) (n : Int) (hk : k = 8) : Same ⟨k,op,ty,to,tr,a,b,c,bits⟩ u n := by
  unfold Same;obtain ⟨r42,h42,r46,h46,hof⟩ := of_eq op ty;obtain ⟨v48,h48⟩ := turns_some to ty;have h41 := (turns_eq to ty).trans h48;subst hk
  all_goals simp only [F25,F25_j1,F25_j2,F25_j3,F25_j4,F25_j5,F25_j6,F25_j7,F25_j8,F25_j9,F43,F40_is,F56_is,F59_is,g1,g2,g3,g4,g5,g6,g7,g8,g9,g10,g11,g12,g13,g14,g15,g16,g17,F27,F27_j1,F27_j2,F44,F44_j1,F44_j2,F44_j3,F44_j4,F44_j5,F44_j6,F45_is,F49_is,F50_is,F26_is,F47_is,h42,h46,hof,h41,h48,rowV,Go.Eng.Cod.ty,ge_iff_le,gt_iff_lt,lt_not,Int.reduceBEq,Int.reduceLE,and_self,decide_true,Option.bind_some,Bool.not_true,Bool.false_eq_true,if_false,if_true,bne_not,Bool.not_not,Bool.not_false,beq_self_eq_true]
  all_goals
    generalize (op == 0) = p1
    generalize (ty == 0) = p2
    generalize (to == 0) = p3
    generalize (tr == 0) = p4
    generalize (a == 0) = p5
    generalize (b == 0) = p6
    generalize (c == 0) = p7
    generalize (bits == 0) = p8
  · generalize decide (1 ≤ bits) = q1
    generalize decide (bits ≤ 256) = q2
    generalize decide (0 ≤ c) = q3
    generalize decide (c ≤ IntKind.i64.wrap (u.fFrame - IntKind.i64.wrap bits)) = q4
    generalize rb a 8 = q5
    generalize rb b 8 = q6
    cases p1 <;> cases p2 <;> cases p3 <;> cases p4 <;> cases q1 <;> cases q2 <;> cases q3 <;> cases q4 <;> cases q5 <;> cases q6 <;> exact ⟨_,rfl,rfl⟩
theorem same_4 (k op ty to tr a b c bits : Int) (u : T_Unit) (n : Int) (hk : k = 9 ∨ k = 10 ∨ k = 11 ∨ k = 12) : Same ⟨k,op,ty,to,tr,a,b,c,bits⟩ u n := by
  unfold Same;obtain ⟨r42,h42,r46,h46,hof⟩ := of_eq op ty;obtain ⟨v48,h48⟩ := turns_some to ty;have h41 := (turns_eq to ty).trans h48;rcases hk with rfl | rfl | rfl | rfl
  all_goals simp only [F25,F25_j1,F25_j2,F25_j3,F25_j4,F25_j5,F25_j6,F25_j7,F25_j8,F25_j9,F43,F40_is,F56_is,F59_is,g1,g2,g3,g4,g5,g6,g7,g8,g9,g10,g11,g12,g13,g14,g15,g16,g17,F27,F27_j1,F27_j2,F44,F44_j1,F44_j2,F44_j3,F44_j4,F44_j5,F44_j6,F45_is,F49_is,F50_is,F26_is,F47_is,h42,h46,hof,h41,h48,rowV,Go.Eng.Cod.ty,ge_iff_le,gt_iff_lt,lt_not,Int.reduceBEq,Int.reduceLE,and_self,decide_true,Option.bind_some,Bool.not_true,Bool.false_eq_true,if_false,if_true,bne_not,Bool.not_not,Bool.not_false,beq_self_eq_true]
  all_goals
    generalize (op == 0) = p1
    generalize (ty == 0) = p2
    generalize (to == 0) = p3
    generalize (tr == 0) = p4
    generalize (a == 0) = p5
    generalize (b == 0) = p6
    generalize (c == 0) = p7
    generalize (bits == 0) = p8
  · generalize decide (1 ≤ bits) = q1
    generalize decide (bits ≤ 256) = q2
    generalize decide (0 ≤ c) = q3
    generalize decide (c ≤ IntKind.i64.wrap (u.fFrame - IntKind.i64.wrap bits)) = q4
    cases p1 <;> cases p2 <;> cases p3 <;> cases p4 <;> cases p5 <;> cases p6 <;> cases q1 <;> cases q2 <;> cases q3 <;> cases q4 <;> exact ⟨_,rfl,rfl⟩
  · generalize rb a 8 = q1
    generalize rb b ((List.length u.fParams : Nat) : Int) = q2
    cases p1 <;> cases p2 <;> cases p3 <;> cases p4 <;> cases p7 <;> cases p8 <;> cases q1 <;> cases q2 <;> exact ⟨_,rfl,rfl⟩
  · generalize rb a 8 = q1
    generalize rb b 8 = q2
    cases p1 <;> cases p2 <;> cases p3 <;> cases p4 <;> cases p7 <;> cases p8 <;> cases q1 <;> cases q2 <;> exact ⟨_,rfl,rfl⟩
  · generalize rb a n = q1
    cases p1 <;> cases p2 <;> cases p3 <;> cases p4 <;> cases p6 <;> cases p7 <;> cases p8 <;> cases q1 <;> exact ⟨_,rfl,rfl⟩
theorem same_5 (k op ty to tr a b c bits : Int) (u : T_Unit) (n : Int) (hk : k = 13 ∨ k = 14 ∨ k = 15) : Same ⟨k,op,ty,to,tr,a,b,c,bits⟩ u n := by
  unfold Same;obtain ⟨r42,h42,r46,h46,hof⟩ := of_eq op ty;obtain ⟨v48,h48⟩ := turns_some to ty;have h41 := (turns_eq to ty).trans h48;rcases hk with rfl | rfl | rfl
  all_goals simp only [F25,F25_j1,F25_j2,F25_j3,F25_j4,F25_j5,F25_j6,F25_j7,F25_j8,F25_j9,F43,F40_is,F56_is,F59_is,g1,g2,g3,g4,g5,g6,g7,g8,g9,g10,g11,g12,g13,g14,g15,g16,g17,F27,F27_j1,F27_j2,F44,F44_j1,F44_j2,F44_j3,F44_j4,F44_j5,F44_j6,F45_is,F49_is,F50_is,F26_is,F47_is,h42,h46,hof,h41,h48,rowV,Go.Eng.Cod.ty,ge_iff_le,gt_iff_lt,lt_not,Int.reduceBEq,Int.reduceLE,and_self,decide_true,Option.bind_some,Bool.not_true,Bool.false_eq_true,if_false,if_true,bne_not,Bool.not_not,Bool.not_false,beq_self_eq_true]
  all_goals
    generalize (op == 0) = p1
    generalize (ty == 0) = p2
    generalize (to == 0) = p3
    generalize (tr == 0) = p4
    generalize (a == 0) = p5
    generalize (b == 0) = p6
    generalize (c == 0) = p7
    generalize (bits == 0) = p8
  · generalize decide (1 ≤ ty) = q1
    generalize decide (ty ≤ 5) = q2
    generalize rb a 8 = q3
    cases p1 <;> cases p3 <;> cases p4 <;> cases p6 <;> cases p7 <;> cases p8 <;> cases q1 <;> cases q2 <;> cases q3 <;> exact ⟨_,rfl,rfl⟩
  · generalize rb a ((List.length u.fCode : Nat) : Int) = q1
    cases p1 <;> cases p2 <;> cases p3 <;> cases p4 <;> cases p6 <;> cases p7 <;> cases p8 <;> cases q1 <;> exact ⟨_,rfl,rfl⟩
  · generalize rb a 8 = q1
    generalize rb b ((List.length u.fCode : Nat) : Int) = q2
    generalize rb c ((List.length u.fCode : Nat) : Int) = q3
    cases p1 <;> cases p2 <;> cases p3 <;> cases p4 <;> cases p8 <;> cases q1 <;> cases q2 <;> cases q3 <;> exact ⟨_,rfl,rfl⟩
theorem same_6 (k op ty to tr a b c bits : Int) (u : T_Unit) (n : Int) (hk : k = 16 ∨ k = 17) : Same ⟨k,op,ty,to,tr,a,b,c,bits⟩ u n := by
  unfold Same;obtain ⟨r42,h42,r46,h46,hof⟩ := of_eq op ty;obtain ⟨v48,h48⟩ := turns_some to ty;have h41 := (turns_eq to ty).trans h48;rcases hk with rfl | rfl
  all_goals simp only [F25,F25_j1,F25_j2,F25_j3,F25_j4,F25_j5,F25_j6,F25_j7,F25_j8,F25_j9,F43,F40_is,F56_is,F59_is,g1,g2,g3,g4,g5,g6,g7,g8,g9,g10,g11,g12,g13,g14,g15,g16,g17,F27,F27_j1,F27_j2,F44,F44_j1,F44_j2,F44_j3,F44_j4,F44_j5,F44_j6,F45_is,F49_is,F50_is,F26_is,F47_is,h42,h46,hof,h41,h48,rowV,Go.Eng.Cod.ty,ge_iff_le,gt_iff_lt,lt_not,Int.reduceBEq,Int.reduceLE,and_self,decide_true,Option.bind_some,Bool.not_true,Bool.false_eq_true,if_false,if_true,bne_not,Bool.not_not,Bool.not_false,beq_self_eq_true]
  all_goals
    generalize (op == 0) = p1
    generalize (ty == 0) = p2
    generalize (to == 0) = p3
    generalize (tr == 0) = p4
    generalize (a == 0) = p5
    generalize (b == 0) = p6
    generalize (c == 0) = p7
    generalize (bits == 0) = p8
  · generalize rb a 8 = q1
    cases p1 <;> cases p2 <;> cases p3 <;> cases p4 <;> cases p6 <;> cases p7 <;> cases p8 <;> cases q1 <;> exact ⟨_,rfl,rfl⟩
  · generalize decide (1 ≤ tr) = q1
    generalize decide (tr ≤ 3) = q2
    cases p1 <;> cases p2 <;> cases p3 <;> cases p5 <;> cases p6 <;> cases p7 <;> cases p8 <;> cases q1 <;> cases q2 <;> exact ⟨_,rfl,rfl⟩
theorem same_in (k op ty to tr a b c bits : Int) (u : T_Unit) (n : Int) (hk : 1 ≤ k ∧ k ≤ 17) : Same ⟨k,op,ty,to,tr,a,b,c,bits⟩ u n := by
  by_cases h0 : k ≤ 3
  · exact same_0 k op ty to tr a b c bits u n (by omega)
  by_cases h1 : k ≤ 6
  · exact same_1 k op ty to tr a b c bits u n (by omega)
  by_cases h2 : k ≤ 7
  · exact same_2 k op ty to tr a b c bits u n (by omega)
  by_cases h3 : k ≤ 8
  · exact same_3 k op ty to tr a b c bits u n (by omega)
  by_cases h4 : k ≤ 12
  · exact same_4 k op ty to tr a b c bits u n (by omega)
  by_cases h5 : k ≤ 15
  · exact same_5 k op ty to tr a b c bits u n (by omega)
  · exact same_6 k op ty to tr a b c bits u n (by omega)
end Go.Eng.Cod
namespace Go.Eng.Cod
open Go Go.Eng
set_option linter.unusedSectionVars false
set_option linter.unusedVariables false
set_option linter.unusedSimpArgs false
set_option maxRecDepth 20000
abbrev Sz {α : Type} (l : List α) : Prop := l.length ≤ 140737488355328
theorem lt_dec {n : Nat} {i : Nat} (h : i < n) : decide ((i : Int) < (n : Int)) = true := decide_eq_true (by omega)
theorem ge_dec (n : Nat) : decide ((n : Int) < (n : Int)) = false := decide_eq_false (by omega)
theorem lt_of {α : Type} {l : List α} {i : Nat} {a : α} (h : l[i]? = some a) : i < l.length := (List.getElem?_eq_some_iff.mp h).1
theorem F44_6 (x : T_Code) (a b c d : Bool) : ∃ v,F44_j6 x a b c d = some v := by
  unfold F44_j6
  repeat' split
  all_goals exact ⟨_,rfl⟩
theorem F44_5 (x : T_Code) (a b c d e : Bool) : ∃ v,F44_j5 x a b c d e = some v := by
  unfold F44_j5
  repeat' split
  all_goals first | exact F44_6 _ _ _ _ _ | exact ⟨_,rfl⟩
theorem F44_4 (x : T_Code) (a b c d : Bool) : ∃ v,F44_j4 x a b c d = some v := by
  unfold F44_j4
  repeat' split
  all_goals exact F44_5 _ _ _ _ _ _
theorem F44_3 (x : T_Code) (a b c : Bool) : ∃ v,F44_j3 x a b c = some v := by
  unfold F44_j3
  repeat' split
  all_goals exact F44_4 _ _ _ _ _
theorem F44_2 (x : T_Code) (a b : Bool) : ∃ v,F44_j2 x a b = some v := by
  unfold F44_j2
  repeat' split
  all_goals exact F44_3 _ _ _ _
theorem F44_1 (x : T_Code) (a : Bool) : ∃ v,F44_j1 x a = some v := by
  unfold F44_j1
  repeat' split
  all_goals exact F44_2 _ _ _
theorem F44_0 (x : T_Code) : ∃ v,F44 x = some v := by
  unfold F44
  repeat' split
  all_goals exact F44_1 _ _
theorem same_out (x : T_Code) (u : T_Unit) (n : Int) (hk : ¬ (1 ≤ x.fKind ∧ x.fKind ≤ 17)) : F25 x u n = some false ∧ F27 x u n = some false := by
  constructor
  · unfold F25;rw [F40_is,decide_eq_false hk]; rfl
  · obtain ⟨v,hv⟩ := F44_0 x;have ne : ∀ k : Int,1 ≤ k → k ≤ 17 → (x.fKind == k) = false := by
      intro k h1 h2;have : x.fKind ≠ k := by omega
      simp [this]
    unfold F27;rw [hv,Option.bind_some];cases v
    · rfl
    · simp only [Bool.not_true,Bool.false_eq_true,if_false,F27_j1,F27_j2,ne 1 (by decide) (by decide),ne 2 (by decide) (by decide),ne 3 (by decide) (by decide),ne 4 (by decide) (by decide),ne 5 (by decide) (by decide),ne 6 (by decide) (by decide),ne 7 (by decide) (by decide),ne 8 (by decide) (by decide),ne 9 (by decide) (by decide),ne 10 (by decide) (by decide),ne 11 (by decide) (by decide),ne 12 (by decide) (by decide),ne 13 (by decide) (by decide),ne 14 (by decide) (by decide),ne 15 (by decide) (by decide),ne 16 (by decide) (by decide),ne 17 (by decide) (by decide)]
def st (u : T_Unit) (n : Int) (x : T_Code) : Bool := match F25 x u n with | some b => b | none => false
theorem stands (u : T_Unit) (n : Int) (x : T_Code) : F25 x u n = some (st u n x) ∧ F27 x u n = some (st u n x) ∧ (st u n x = true → x.fKind ≤ 17) := by
  by_cases hk : 1 ≤ x.fKind ∧ x.fKind ≤ 17
  · obtain ⟨k,op,ty,to,tr,a,b,c,bits⟩ := x;obtain ⟨v,h1,h2⟩ := same_in k op ty to tr a b c bits u n hk;have e : st u n ⟨k,op,ty,to,tr,a,b,c,bits⟩ = v := by unfold st; rw [h1]
    rw [e];exact ⟨h1,h2,fun _ => hk.2⟩
  · obtain ⟨h1,h2⟩ := same_out x u n hk;have e : st u n x = false := by unfold st; rw [h1]
    rw [e];exact ⟨h1,h2,fun h => by cases h⟩
theorem right_same (u : T_Unit) (n : Int) (hc : Sz u.fCode) : ∃ b,F15 u n = some b ∧ F16 u n = some b := by
  unfold Sz at hc;unfold F15 F16
  by_cases h8 : ((List.length u.fParams : Nat) : Int) > 8
  · rw [decide_eq_true h8]; exact ⟨false,rfl,rfl⟩
  rw [decide_eq_false h8,F24_is,F26_is];simp only [Bool.false_eq_true,if_false,Option.bind_some];cases ty u.fResult
  case false => exact ⟨false,rfl,rfl⟩
  cases decide (u.fFrame < 0)
  case true => exact ⟨false,rfl,rfl⟩
  cases decide (u.fFrame > 1073741824)
  case true => exact ⟨false,rfl,rfl⟩
  cases hl0 : (((List.length u.fCode : Nat) : Int) == 0)
  case true => exact ⟨false,rfl,rfl⟩
  simp only [Bool.false_eq_true,if_false,if_true];have e1 : iter (fun s : (Int) => F15_1_b u n s) FUEL (0 : Int) = some (if u.fParams.all ty = true then Out.go () else Out.ret false) := by
    rw [← allI_const ty 0];refine loop_all (fun _ t => ty t) (by omega) (fun i a h => ?_) ?_
    · have := lt_of h;simp only [F15_1_b,lt_dec this,if_true,idx_some h,Option.bind_some,F24_is,wnat (show i ≤ 4611686018427387904 by omega)];cases ty a <;> rfl
    · simp only [F15_1_b,ge_dec,Bool.false_eq_true,if_false]
  have e2 : iter (fun s : (Int) => F16_1_b u n s) FUEL (0 : Int) = some (if u.fParams.all ty = true then Out.go () else Out.ret false) := by
    rw [← allI_const ty 0];refine loop_all (fun _ t => ty t) (by omega) (fun i a h => ?_) ?_
    · have := lt_of h;simp only [F16_1_b,lt_dec this,if_true,idx_some h,Option.bind_some,F26_is,wnat (show i ≤ 4611686018427387904 by omega)];cases ty a <;> rfl
    · simp only [F16_1_b,ge_dec,Bool.false_eq_true,if_false]
  have e3 : iter (fun s : (Int) => F15_2_b u n s) FUEL (0 : Int) = some (if u.fCode.all (st u n) = true then Out.go () else Out.ret false) := by
    rw [← allI_const (st u n) 0];refine loop_all (fun _ x => st u n x) (by omega) (fun i a h => ?_) ?_
    · have := lt_of h;simp only [F15_2_b,lt_dec this,if_true,idx_some h,Option.bind_some,(stands u n a).1,wnat (show i ≤ 4611686018427387904 by omega)];cases st u n a <;> rfl
    · simp only [F15_2_b,ge_dec,Bool.false_eq_true,if_false]
  have e4 : iter (fun s : (Int) => F16_2_b u n s) FUEL (0 : Int) = some (if u.fCode.all (st u n) = true then Out.go () else Out.ret false) := by
    rw [← allI_const (st u n) 0];refine loop_all (fun _ x => st u n x) (by omega) (fun i a h => ?_) ?_
    · have := lt_of h;simp only [F16_2_b,lt_dec this,if_true,idx_some h,Option.bind_some,(stands u n a).2.1,wnat (show i ≤ 4611686018427387904 by omega)];cases st u n a <;> rfl
    · simp only [F16_2_b,ge_dec,Bool.false_eq_true,if_false]
  rw [e1,e2,e3,e4];cases u.fParams.all ty
  case false => exact ⟨false,rfl,rfl⟩
  cases hal : u.fCode.all (st u n)
  case false => exact ⟨false,rfl,rfl⟩
  simp only [if_true,Option.bind_some];have hpos : 0 < u.fCode.length := by
    have : ¬ ((List.length u.fCode : Nat) : Int) = 0 := by simpa using hl0
    omega
  have hw : IntKind.i64.wrap (((List.length u.fCode : Nat) : Int) - 1) = ((u.fCode.length - 1 : Nat) : Int) := by
    rw [wrap64_in (by omega) (by omega)]; omega
  have hx : u.fCode[u.fCode.length - 1]? = some (u.fCode[u.fCode.length - 1]'(by omega)) := List.getElem?_eq_getElem (by omega)
  generalize u.fCode[u.fCode.length - 1]'(by omega) = x at hx
  rw [hw,idx_some hx];simp only [Option.bind_some];have h17 : x.fKind ≤ 17 := (stands u n x).2.2 (List.all_eq_true.1 hal x (List.mem_of_getElem? hx));cases h14 : decide (x.fKind ≥ 14)
  · exact ⟨false,rfl,rfl⟩
  · rw [decide_eq_true h17]; exact ⟨true,rfl,rfl⟩
def ri (n : Int) (u : T_Unit) : Bool := match F15 u n with | some b => b | none => false
theorem check_same (l : List T_Unit) (hc : ∀ u ∈ l,Sz u.fCode) : ∃ r,F6 l = some r ∧ F7 l = some r := by
  unfold F6 F7
  by_cases h64 : ((List.length l : Nat) : Int) > 64
  · rw [decide_eq_true h64]; exact ⟨_,rfl,rfl⟩
  rw [decide_eq_false h64];simp only [Bool.false_eq_true,if_false];have hr : ∀ u ∈ l,F15 u ((List.length l : Nat) : Int) = some (ri ((List.length l : Nat) : Int) u) ∧ F16 u ((List.length l : Nat) : Int) = some (ri ((List.length l : Nat) : Int) u) := by
    intro u hu;obtain ⟨b,h1,h2⟩ := right_same u ((List.length l : Nat) : Int) (hc u hu);have e : ri ((List.length l : Nat) : Int) u = b := by unfold ri; rw [h1]
    rw [e]; exact ⟨h1,h2⟩
  have e1 : iter (fun s : (Int) => F6_1_b l s) FUEL (0 : Int) = some (outF () (first (fun i g => if ri ((List.length l : Nat) : Int) g then none else some ((4 : Int),((i : Nat) : Int))) 0 l)) := by
    refine loop_first (l := l) (fun i g => if ri ((List.length l : Nat) : Int) g then none else some ((4 : Int),(i : Int))) (by omega) (fun i a h => ?_) ?_
    · have := lt_of h;simp only [F6_1_b,lt_dec this,if_true,idx_some h,Option.bind_some,(hr a (List.mem_of_getElem? h)).1,wnat (show i ≤ 4611686018427387904 by omega)];cases ri ((List.length l : Nat) : Int) a <;> rfl
    · simp only [F6_1_b,ge_dec,Bool.false_eq_true,if_false]
  have e2 : iter (fun s : (Int) => F7_1_b l s) FUEL (0 : Int) = some (outF () (first (fun i g => if ri ((List.length l : Nat) : Int) g then none else some ((4 : Int),((i : Nat) : Int))) 0 l)) := by
    refine loop_first (l := l) (fun i g => if ri ((List.length l : Nat) : Int) g then none else some ((4 : Int),(i : Int))) (by omega) (fun i a h => ?_) ?_
    · have := lt_of h;simp only [F7_1_b,lt_dec this,if_true,idx_some h,Option.bind_some,(hr a (List.mem_of_getElem? h)).2,wnat (show i ≤ 4611686018427387904 by omega)];cases ri ((List.length l : Nat) : Int) a <;> rfl
    · simp only [F7_1_b,ge_dec,Bool.false_eq_true,if_false]
  rw [e1,e2];cases first (fun i g => if ri ((List.length l : Nat) : Int) g then none else some ((4 : Int),((i : Nat) : Int))) 0 l with
  | none => exact ⟨_,rfl,rfl⟩
  | some r => exact ⟨_,rfl,rfl⟩
theorem great_some (l : List T_Unit) (hl : Sz l) : ∃ b,F4 l = some b := by
  unfold Sz at hl;unfold F4;have key : ∃ o,iter (fun s : (Int × Int) => F4_1_b l s.1 s.2) FUEL ((0 : Int),(0 : Int)) = some o ∧ True := by
    refine iter_ok (I := fun m s => ∃ i : Nat,i ≤ l.length ∧ m = l.length - i ∧ s.2 = (i : Int)) ?_ FUEL l.length _ ⟨0,by omega,by omega,rfl⟩ (by unfold FUEL; omega);rintro m ⟨n,i'⟩ ⟨i,hi,rfl,hi'⟩;simp only at hi';subst hi';unfold F4_1_b
    by_cases hil : i < l.length
    · have hb : l[i]? = some l[i] := List.getElem?_eq_getElem hil
      generalize l[i] = u at hb
      simp only [lt_dec hil,if_true,idx_some hb,Option.bind_some];cases decide (n ≤ 2000)
      · exact ⟨_,rfl,trivial⟩
      · cases decide (((List.length u.fCode : Nat) : Int) > 600)
        · exact ⟨_,rfl,l.length - (i + 1),by omega,i + 1,by omega,rfl,wnat (show i ≤ 4611686018427387904 by omega)⟩
        · exact ⟨_,rfl,trivial⟩
    · have : i = l.length := by omega
      subst this;simp only [ge_dec,Bool.false_eq_true,if_false];exact ⟨_,rfl,trivial⟩
  obtain ⟨o,ho,_⟩ := key;rw [ho,Option.bind_some];cases o with
  | ret r => exact ⟨r,rfl⟩
  | go a =>
    simp only
    split
    · exact ⟨_,rfl⟩
    · exact ⟨_,rfl⟩
theorem awake5 : F5 = some true := by kernel_rfl
theorem checks (l : List T_Unit) (hl : Sz l) (hc : ∀ u ∈ l,Sz u.fCode) : F3 l = some true := by
  obtain ⟨b,hb⟩ := great_some l hl;obtain ⟨r,h1,h2⟩ := check_same l hc;unfold F3;rw [hb,Option.bind_some,awake5,h1,h2];cases b
  · simp only [Bool.false_eq_true,if_false,Option.bind_some,beq_self_eq_true,if_true]
  · rfl
end Go.Eng.Cod
