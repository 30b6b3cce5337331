/- Functions of this seat, run on unknown values by the rules of the small machine (no condition beyond those stated). -/
import Derived.Test.YthpbodnnbjdnlaaDoorEngTUp
import Derived.Test.YthpbodnnbjdnlaaDoorCopF
set_option linter.unusedSectionVars false
namespace Go.Eng
open Go
set_option linter.unusedSectionVars false
set_option linter.unusedVariables false
set_option linter.unusedSimpArgs false
variable [Xtn]
def Ok {σ R A : Type} (I : Nat → σ → Prop) (m : Nat) (P : Out R A → Prop) : Stp σ R A → Prop
  | .next s => ∃ m',m' < m ∧ I m' s
  | .ret r => P (.ret r)
  | .go a => P (.go a)
theorem iter_ok {σ R A : Type} {f : σ → Option (Stp σ R A)} {I : Nat → σ → Prop} {P : Out R A → Prop} (h : ∀ m s,I m s → ∃ t,f s = some t ∧ Ok I m P t) : ∀ (n m : Nat) (s : σ),I m s → m < n → ∃ o,iter f n s = some o ∧ P o
  | 0,m,s,_,hm => by omega
  | n + 1,m,s,hI,hm => by
    obtain ⟨t,ht,hok⟩ := h m s hI;rw [iter_succ,ht];cases t with
    | next s' =>
      obtain ⟨m',hm',hI'⟩ := hok;exact iter_ok h n m' s' hI' (by omega)
    | ret r => exact ⟨_,rfl,hok⟩
    | go a => exact ⟨_,rfl,hok⟩
theorem wsucc' {x : Int} (h0 : 0 ≤ x) (h1 : x ≤ 4611686018427387904) : IntKind.i64.wrap (x + 1) = x + 1 := wrap64_in (by omega) (by omega)
theorem wnat {x : Nat} (h1 : x ≤ 4611686018427387904) : IntKind.i64.wrap ((x : Int) + 1) = ((x + 1 : Nat) : Int) := by rw [wsucc' (by omega) (by omega)]; rfl
theorem idx_nat {α : Type} {l : List α} {i : Nat} : idx l (i : Int) = l[i]? := by
  unfold idx; rw [if_pos (by omega),Int.toNat_natCast]
theorem idx_some {α : Type} {l : List α} {i : Nat} {a : α} (h : l[i]? = some a) : idx l (i : Int) = some a := by rw [idx_nat,h]
theorem part_nat {α : Type} {l : List α} {a b : Nat} (h : a ≤ b) (hb : b ≤ l.length) : part l (a : Int) (b : Int) = some ((l.drop a).take (b - a)) := by
  unfold part;rw [if_pos ⟨by omega,by omega,by omega⟩,Int.toNat_natCast,Int.toNat_natCast,List.drop_take]
theorem more_nat {α : Type} {by_ : Nat} {l r : List α} (h : (l.length + r.length) * by_ ≤ 140737488355328) : more by_ l r = some (l ++ r) := by unfold more; rw [if_pos h]
end Go.Eng
namespace Go.Eng
open Go
set_option linter.unusedSectionVars false
set_option linter.unusedVariables false
set_option linter.unusedSimpArgs false
variable [Xtn]
def first {α R : Type} (p : Nat → α → Option R) : Nat → List α → Option R
  | _,[] => none
  | i,a :: l => match p i a with
    | some r => some r
    | none => first p (i + 1) l
def runs {α σ R : Type} (p : Nat → σ → α → R ⊕ σ) : Nat → σ → List α → R ⊕ σ
  | _,s,[] => .inr s
  | i,s,a :: l => match p i s a with
    | .inl r => .inl r
    | .inr s' => runs p (i + 1) s' l
def allI {α : Type} (q : Nat → α → Bool) : Nat → List α → Bool
  | _,[] => true
  | i,a :: l => q i a && allI q (i + 1) l
theorem allI_const {α : Type} (q : α → Bool) : ∀ (i : Nat) (l : List α),allI (fun _ a => q a) i l = l.all q
  | _,[] => rfl
  | i,a :: l => by rw [allI,allI_const q (i + 1) l]; rfl
def outOf {R σ A : Type} (fin : σ → A) : R ⊕ σ → Out R A
  | .inl r => .ret r
  | .inr s => .go (fin s)
def stpOf {R σ S A : Type} (mk : σ → S) : R ⊕ σ → Stp S R A
  | .inl r => .ret r
  | .inr s => .next (mk s)
theorem loop_st {α σ S R A : Type} {l : List α} {f : S → Option (Stp S R A)} (mk : σ → Int → S) (fin : σ → A) (p : Nat → σ → α → R ⊕ σ) (Inv : Nat → σ → Prop) (hl : l.length < 4611686018427387904)
    (hin : ∀ (i : Nat) (s : σ) (a : α),Inv i s → l[i]? = some a → (f (mk s (i : Int)) = some (stpOf (fun s' => mk s' ((i + 1 : Nat) : Int)) (p i s a))) ∧ ∀ s',p i s a = .inr s' → Inv (i + 1) s')
    (hout : ∀ s,Inv l.length s → f (mk s (l.length : Int)) = some (.go (fin s))) {s : σ} (h0 : Inv 0 s) :
    iter f FUEL (mk s 0) = some (outOf fin (runs p 0 s l)) := by
  have key : ∀ (k i n : Nat) (s : σ),i + k = l.length → k < n → Inv i s → iter f n (mk s (i : Int)) = some (outOf fin (runs p i s (l.drop i))) := by
    intro k
    induction k with
    | zero =>
      intro i n s hi hn hI;obtain ⟨m,rfl⟩ : ∃ m,n = m + 1 := ⟨n - 1,by omega⟩;have : i = l.length := by omega
      subst this;rw [iter_succ,hout s hI,List.drop_length]; rfl
    | succ k ih =>
      intro i n s hi hn hI;obtain ⟨m,rfl⟩ : ∃ m,n = m + 1 := ⟨n - 1,by omega⟩;have hil : i < l.length := by omega
      obtain ⟨h1,h2⟩ := hin i s l[i] hI (List.getElem?_eq_getElem hil);rw [iter_succ,h1,List.drop_eq_getElem_cons hil,runs];cases hp : p i s l[i] with
      | inl r => rfl
      | inr s' => exact ih (i + 1) m s' (by omega) (by omega) (h2 s' hp)
  have := key l.length 0 FUEL s (by omega) (by unfold FUEL; omega) h0
  simpa using this
def outF {R A : Type} (a0 : A) : Option R → Out R A
  | some r => .ret r
  | none => .go a0
theorem loop_first {α R A : Type} {l : List α} {f : Int → Option (Stp Int R A)} {a0 : A} (p : Nat → α → Option R) (hl : l.length < 4611686018427387904)
    (hin : ∀ (i : Nat) (a : α),l[i]? = some a → f (i : Int) = some (match p i a with | some r => .ret r | none => .next ((i + 1 : Nat) : Int)))
    (hout : f (l.length : Int) = some (.go a0)) : iter f FUEL 0 = some (outF a0 (first p 0 l)) := by
  have key : ∀ (k i n : Nat),i + k = l.length → k < n → iter f n (i : Int) = some (outF a0 (first p i (l.drop i))) := by
    intro k
    induction k with
    | zero =>
      intro i n hi hn;obtain ⟨m,rfl⟩ : ∃ m,n = m + 1 := ⟨n - 1,by omega⟩;have : i = l.length := by omega
      subst this;rw [iter_succ,hout,List.drop_length]; rfl
    | succ k ih =>
      intro i n hi hn;obtain ⟨m,rfl⟩ : ∃ m,n = m + 1 := ⟨n - 1,by omega⟩;have hil : i < l.length := by omega
      rw [iter_succ,hin i l[i] (List.getElem?_eq_getElem hil),List.drop_eq_getElem_cons hil,first];cases hp : p i l[i] with
      | some r => rfl
      | none => exact ih (i + 1) m (by omega) (by omega)
  have := key l.length 0 FUEL (by omega) (by unfold FUEL; omega)
  simpa using this
theorem loop_all {α R A : Type} {l : List α} {f : Int → Option (Stp Int R A)} {a0 : A} {r0 : R} (q : Nat → α → Bool) (hl : l.length < 4611686018427387904)
    (hin : ∀ (i : Nat) (a : α),l[i]? = some a → f (i : Int) = some (if q i a then .next ((i + 1 : Nat) : Int) else .ret r0))
    (hout : f (l.length : Int) = some (.go a0)) : iter f FUEL 0 = some (if allI q 0 l then .go a0 else .ret r0) := by
  rw [loop_first (a0 := a0) (fun i a => if q i a then none else some r0) hl (fun i a h => by rw [hin i a h]; cases q i a <;> rfl) hout];have : ∀ (l : List α) (i : Nat),first (fun i a => if q i a then none else some r0) i l = if allI q i l then none else some r0 := by
    intro l
    induction l with
    | nil => intro i; rfl
    | cons a l ih =>
      intro i;rw [first,allI];cases q i a
      · rfl
      · rw [Bool.true_and]; exact ih (i + 1)
  rw [this];cases allI q 0 l <;> rfl
end Go.Eng
namespace Go.Eng.Cop
open Go Go.Eng
set_option linter.unusedSectionVars false
set_option linter.unusedVariables false
set_option linter.unusedSimpArgs false
def rb (x n : Int) : Bool := decide (0 ≤ x) && decide (x < n)
theorem F93_is (n x : Int) : F93 n x = some (rb x n) := by unfold F93 rb; by_cases h : 0 ≤ x <;> simp [h]
def ty (t : Int) : Bool := decide (1 ≤ t) && decide (t ≤ 5)
theorem F68_is (t : Int) : F68 t = some (ty t) := by unfold F68 ty; by_cases h : 1 ≤ t <;> simp [h]
def sg (op : Int) : Bool := op == 17 || op == 18
theorem F75_is (op : Int) : F75 op = some (sg op) := by unfold F75 sg; cases op == 17 <;> rfl
theorem F82_is (k : Int) : F82 k = some (decide (1 ≤ k ∧ k ≤ 17)) := by unfold F82; by_cases h : 1 ≤ k <;> simp [h]
theorem beq_f {a b : Int} (h : a ≠ b) : (a == b) = false := by simp [h]
theorem bne_not (a b : Int) : (a != b) = !(a == b) := rfl
theorem F92_is (t : Int) : F92 t = some (decide (2 ≤ t ∧ t ≤ 4)) := by
  unfold F92
  by_cases h2 : t = 2
  · subst h2; rfl
  by_cases h3 : t = 3
  · subst h3; rfl
  by_cases h4 : t = 4
  · subst h4; rfl
  rw [beq_f h2,beq_f h3,beq_f h4];have : ¬ (2 ≤ t ∧ t ≤ 4) := by omega
  rw [decide_eq_false this]; rfl
end Go.Eng.Cop
namespace Go.Eng.Cop
open Go Go.Eng
set_option linter.unusedSectionVars false
set_option linter.unusedVariables false
set_option linter.unusedSimpArgs false
set_option maxRecDepth 20000
theorem lt_not (a b : Int) : decide (a < b) = !decide (b ≤ a) := by by_cases h : a < b <;> simp [h] <;> omega
theorem g1 : idx G0 (1 : Int) = some ⟨1,0,0,false,false,false,false,true,false⟩ := rfl
theorem g2 : idx G0 (2 : Int) = some ⟨1,1,0,false,false,false,false,false,false⟩ := rfl
theorem g3 : idx G0 (3 : Int) = some ⟨1,1,7,true,true,false,false,false,false⟩ := rfl
theorem g4 : idx G0 (4 : Int) = some ⟨1,1,0,false,true,true,false,false,false⟩ := rfl
theorem g5 : idx G0 (5 : Int) = some ⟨1,2,0,false,false,false,false,false,false⟩ := rfl
theorem g6 : idx G0 (6 : Int) = some ⟨2,1,0,false,false,false,false,false,false⟩ := rfl
theorem g7 : idx G0 (7 : Int) = some ⟨1,1,0,false,false,false,false,false,true⟩ := rfl
theorem g8 : idx G0 (8 : Int) = some ⟨1,1,0,false,false,false,false,false,true⟩ := rfl
theorem g9 : idx G0 (9 : Int) = some ⟨0,0,0,false,false,false,false,false,true⟩ := rfl
theorem g10 : idx G0 (10 : Int) = some ⟨1,4,0,false,false,false,false,false,false⟩ := rfl
theorem g11 : idx G0 (11 : Int) = some ⟨5,1,0,false,false,false,false,false,false⟩ := rfl
theorem g12 : idx G0 (12 : Int) = some ⟨6,0,0,false,false,false,false,false,false⟩ := rfl
theorem g13 : idx G0 (13 : Int) = some ⟨1,0,0,false,true,false,false,false,false⟩ := rfl
theorem g14 : idx G0 (14 : Int) = some ⟨3,0,0,false,false,false,false,false,false⟩ := rfl
theorem g15 : idx G0 (15 : Int) = some ⟨1,3,3,false,false,false,false,false,false⟩ := rfl
theorem g16 : idx G0 (16 : Int) = some ⟨1,0,0,false,false,false,false,false,false⟩ := rfl
theorem g17 : idx G0 (17 : Int) = some ⟨0,0,0,false,false,false,true,false,false⟩ := rfl
end Go.Eng.Cop
namespace Go.Eng.Cop
open Go Go.Eng
set_option linter.unusedSectionVars false
set_option linter.unusedVariables false
set_option linter.unusedSimpArgs false
set_option maxRecDepth 20000
abbrev Sz {α : Type} (l : List α) : Prop := l.length ≤ 140737488355328
theorem lt_dec {n : Nat} {i : Nat} (h : i < n) : decide ((i : Int) < (n : Int)) = true := decide_eq_true (by omega)
theorem ge_dec (n : Nat) : decide ((n : Int) < (n : Int)) = false := decide_eq_false (by omega)
theorem lt_of {α : Type} {l : List α} {i : Nat} {a : α} (h : l[i]? = some a) : i < l.length := (List.getElem?_eq_some_iff.mp h).1
def st (u : T_Unit) (n : Int) (x : T_Code) : Bool := match F69 x u n with | some b => b | none => false
theorem great_some (l : List T_Unit) (hl : Sz l) : ∃ b,F8 l = some b := by
  unfold Sz at hl;unfold F8;have key : ∃ o,iter (fun s : (Int × Int) => F8_1_b l s.1 s.2) FUEL ((0 : Int),(0 : Int)) = some o ∧ True := by
    refine iter_ok (I := fun m s => ∃ i : Nat,i ≤ l.length ∧ m = l.length - i ∧ s.2 = (i : Int)) ?_ FUEL l.length _ ⟨0,by omega,by omega,rfl⟩ (by unfold FUEL; omega);rintro m ⟨n,i'⟩ ⟨i,hi,rfl,hi'⟩;simp only at hi';subst hi';unfold F8_1_b
    by_cases hil : i < l.length
    · have hb : l[i]? = some l[i] := List.getElem?_eq_getElem hil
      generalize l[i] = u at hb
      simp only [lt_dec hil,if_true,idx_some hb,Option.bind_some];cases decide (n ≤ 2000)
      · exact ⟨_,rfl,trivial⟩
      · cases decide (((List.length u.fCode : Nat) : Int) > 600)
        · exact ⟨_,rfl,l.length - (i + 1),by omega,i + 1,by omega,rfl,wnat (show i ≤ 4611686018427387904 by omega)⟩
        · exact ⟨_,rfl,trivial⟩
    · have : i = l.length := by omega
      subst this;simp only [ge_dec,Bool.false_eq_true,if_false];exact ⟨_,rfl,trivial⟩
  obtain ⟨o,ho,_⟩ := key;rw [ho,Option.bind_some];cases o with
  | ret r => exact ⟨r,rfl⟩
  | go a =>
    simp only
    split
    · exact ⟨_,rfl⟩
    · exact ⟨_,rfl⟩
end Go.Eng.Cop
namespace Go.Eng.Cop
open Go Go.Eng
set_option linter.unusedSectionVars false
set_option linter.unusedVariables false
set_option linter.unusedSimpArgs false
set_option maxRecDepth 20000
def grpF : Nat → Nat → List Int
  | 0,n => [(n : Int)]
  | k + 1,n => if n < 128 then [(n : Int)] else ((n % 128 + 128 : Nat) : Int) :: grpF k (n / 128)
abbrev grp (n : Nat) : List Int := grpF 8 n
abbrev M0 : Nat := 140737488355328
theorem grpF_len : ∀ k n,(grpF k n).length ≤ k + 1
  | 0,n => by simp [grpF]
  | k + 1,n => by
    have := grpF_len k (n / 128);unfold grpF
    split <;> simp <;> omega
theorem grpF_byte : ∀ k n,n < 128 ^ (k + 1) → ∀ c ∈ grpF k n,0 ≤ c ∧ c < 256
  | 0,n,h,c,hc => by simp [grpF] at hc; subst hc; omega
  | k + 1,n,h,c,hc => by
    unfold grpF at hc
    split at hc
    · simp at hc; subst hc; omega
    · cases hc with
      | head => omega
      | tail _ hc => exact grpF_byte k (n / 128) (by rw [Nat.pow_succ] at h; exact (Nat.div_lt_iff_lt_mul (by decide)).mpr h) c hc
theorem or128 (n : Nat) : IntKind.u8.wrap ((BitVec.ofInt IntKind.u8.bits (IntKind.u8.wrap (n : Int)) ||| BitVec.ofInt IntKind.u8.bits (128 : Int)).toNat : Int) = ((n % 128 + 128 : Nat) : Int) := by
  have key : ∀ m : Nat,m < 256 → IntKind.u8.wrap ((BitVec.ofInt IntKind.u8.bits (m : Int) ||| BitVec.ofInt IntKind.u8.bits (128 : Int)).toNat : Int) = ((m % 128 + 128 : Nat) : Int) := by decide +kernel
  have e : IntKind.u8.wrap (n : Int) = ((n % 256 : Nat) : Int) := by rw [IntKind.wrap_u8]; omega
  rw [e,key (n % 256) (by omega)]
  congr 2; omega
theorem low8 {n : Nat} (h : n < 128) : IntKind.u8.wrap (n : Int) = (n : Int) := by rw [IntKind.wrap_u8]; omega
theorem fdiv128 (n : Nat) : Int.fdiv (n : Int) (2 ^ (min 7 IntKind.i64.bits)) = ((n / 128 : Nat) : Int) := by
  rw [show (2 : Int) ^ (min 7 IntKind.i64.bits) = 128 from rfl,Int.fdiv_eq_ediv_of_nonneg _ (by omega)]; rfl
def Ap (f : List Int → Option (List Int)) (e : List Int) : Prop := ∀ x,x.length + e.length ≤ M0 → f x = some (x ++ e)
theorem more1 {x m : List Int} (h : x.length + m.length ≤ M0) : more 1 x m = some (x ++ m) := more_nat (by rw [Nat.mul_one]; exact h)
theorem Ap.more (m : List Int) : Ap (fun x => more 1 x m) m := fun x h => more1 h
theorem Ap.run {f g : List Int → Option (List Int)} {e e' x : List Int} (hf : Ap f e) (hg : Ap g e') (h : x.length + (e ++ e').length ≤ M0) : (f x).bind g = some (x ++ (e ++ e')) := by
  rw [List.length_append] at h;rw [hf x (by omega),Option.bind_some,hg _ (by rw [List.length_append]; omega),List.append_assoc]
theorem Ap.seq {f g : List Int → Option (List Int)} {e e' : List Int} (hf : Ap f e) (hg : Ap g e') : Ap (fun x => (f x).bind g) (e ++ e') := fun x h => Ap.run hf hg h
theorem Ap.ret : Ap (fun x => some x) [] := fun x h => by simp
theorem grp_go {f : List Int × Int → Option (Stp (List Int × Int) (List Int) (List Int × Int))} (h1 : ∀ (x : List Int) (n : Nat),n < 128 → f (x,(n : Int)) = some (.go (x,(n : Int))))
    (h2 : ∀ (x : List Int) (n : Nat),128 ≤ n → n < 1099511627776 → x.length < M0 → f (x,(n : Int)) = some (.next (x ++ [((n % 128 + 128 : Nat) : Int)],((n / 128 : Nat) : Int)))) :
    ∀ (k j n : Nat) (x : List Int),n < 128 ^ (k + 1) → n < 1099511627776 → k < j → x.length + (grpF k n).length ≤ M0 → ∃ (x' : List Int) (m : Nat),iter f j (x,(n : Int)) = some (.go (x',(m : Int))) ∧ m < 128 ∧ x' ++ [(m : Int)] = x ++ grpF k n
  | 0,j + 1,n,x,hn,h40,hj,hx => by
    rw [iter_succ,h1 x n (by omega)];exact ⟨x,n,rfl,by omega,rfl⟩
  | k + 1,j + 1,n,x,hn,h40,hj,hx => by
    rw [iter_succ];unfold grpF at hx ⊢
    by_cases hs : n < 128
    · rw [h1 x n hs,if_pos hs];exact ⟨x,n,rfl,hs,rfl⟩
    · rw [if_neg hs] at hx ⊢;rw [List.length_cons] at hx;rw [h2 x n (by omega) h40 (by omega)];obtain ⟨x',m,e1,e2,e3⟩ := grp_go h1 h2 k j (n / 128) (x ++ [((n % 128 + 128 : Nat) : Int)]) (by rw [Nat.pow_succ] at hn; exact (Nat.div_lt_iff_lt_mul (by decide)).mpr hn) (by omega) (by omega) (by simp; omega);exact ⟨x',m,e1,e2,by rw [e3,List.append_assoc]; rfl⟩
theorem F35_ap {n : Nat} (hn : n < 1099511627776) : Ap (fun x => F35 x (n : Int)) (grp n) := by
  intro x hx;obtain ⟨x',m,e1,e2,e3⟩ := grp_go (f := fun s : (List Int) × Int => F35_1_b s.1 s.2) (fun x n h => by simp only [F35_1_b]; rw [decide_eq_false (by omega)]; rfl)
    (fun x n h1 h2 h3 => by simp only [F35_1_b]; rw [decide_eq_true (by omega),or128,more1 (by simp; omega),fdiv128]; rfl) 8 FUEL n x (by omega) hn (by decide) hx
  show F35 x (n : Int) = some (x ++ grp n);unfold F35;rw [e1,Option.bind_some];have hl : x'.length + 1 = (x ++ grp n).length := by rw [← e3]; simp
  rw [List.length_append] at hl
  simp only
  rw [low8 e2,more1 (by simp; omega),e3]; rfl
theorem Ap.loop {α R A : Type} {l : List α} {f : List Int × Int → Option (Stp (List Int × Int) R A)} (fin : List Int → A) (mk : Nat → Int) (e : Nat → α → List Int) (hl : l.length < 4611686018427387904)
    (hin : ∀ (i : Nat) (a : α) (x : List Int),l[i]? = some a → x.length + (e i a).length ≤ M0 → f (x,mk i) = some (.next (x ++ e i a,mk (i + 1))))
    (hout : ∀ x,f (x,mk l.length) = some (.go (fin x))) : ∀ (x : List Int),x.length + (l.mapIdx e).flatten.length ≤ M0 → iter f FUEL (x,mk 0) = some (.go (fin (x ++ (l.mapIdx e).flatten))) := by
  have key : ∀ (k i n : Nat) (x : List Int),i + k = l.length → k < n → x.length + ((l.drop i).mapIdx fun j a => e (i + j) a).flatten.length ≤ M0 → iter f n (x,mk i) = some (.go (fin (x ++ ((l.drop i).mapIdx fun j a => e (i + j) a).flatten))) := by
    intro k
    induction k with
    | zero =>
      intro i n x hi hn hx;obtain ⟨m,rfl⟩ : ∃ m,n = m + 1 := ⟨n - 1,by omega⟩;have : i = l.length := by omega
      subst this;rw [iter_succ,hout,List.drop_length]; simp
    | succ k ih =>
      intro i n x hi hn hx;obtain ⟨m,rfl⟩ : ∃ m,n = m + 1 := ⟨n - 1,by omega⟩;have hil : i < l.length := by omega
      rw [List.drop_eq_getElem_cons hil,List.mapIdx_cons,List.flatten_cons,List.length_append,Nat.add_zero] at hx;have e2 : (fun (j : Nat) (a : α) => e (i + (j + 1)) a) = fun j a => e (i + 1 + j) a := by funext j a; rw [show i + (j + 1) = i + 1 + j by omega]
      rw [e2] at hx;rw [iter_succ,hin i l[i] x (List.getElem?_eq_getElem hil) (by omega),List.drop_eq_getElem_cons hil,List.mapIdx_cons,List.flatten_cons,Nat.add_zero,e2,← List.append_assoc];exact ih (i + 1) m _ (by omega) (by omega) (by rw [List.length_append]; omega)
  intro x hx;have := key l.length 0 FUEL x (by omega) (by unfold FUEL; omega)
  simpa using this (by simpa using hx)
theorem mapIdx_c {α : Type} (e : α → List Int) : ∀ l : List α,(l.mapIdx fun _ a => e a).flatten = l.flatMap e
  | [] => rfl
  | a :: l => by rw [List.mapIdx_cons,List.flatten_cons,List.flatMap_cons]; congr 1; exact mapIdx_c e l
end Go.Eng.Cop
namespace Go.Eng.Cop
open Go Go.Eng
set_option linter.unusedSectionVars false
set_option linter.unusedVariables false
set_option linter.unusedSimpArgs false
set_option maxRecDepth 20000
def b8 (n : Nat) : List Int := ((List.range 8).mapIdx fun i _ => [((n / 2 ^ (8 * i) % 256 : Nat) : Int)]).flatten
theorem b8_len (n : Nat) : (b8 n).length = 8 := rfl
theorem Ap.cast {f : List Int → Option (List Int)} {e e' : List Int} (h : Ap f e) (he : e = e') : Ap f e' := he ▸ h
theorem range_get {i a : Nat} (h : (List.range 8)[i]? = some a) : i < 8 := by
  have := (List.getElem?_eq_some_iff.mp h).1
  simpa using this
theorem byte_at (n i : Nat) (hi : i < 8) : IntKind.u8.wrap (Int.fdiv (n : Int) (2 ^ (min (8 * i) IntKind.u64.bits))) = ((n / 2 ^ (8 * i) % 256 : Nat) : Int) := by
  have e : min (8 * i) IntKind.u64.bits = 8 * i := by show min (8 * i) 64 = _; omega
  have e2 : ((2 : Int) ^ (8 * i)) = ((2 ^ (8 * i) : Nat) : Int) := by push_cast; rfl
  rw [e,e2,Int.fdiv_eq_ediv_of_nonneg _ (Int.natCast_nonneg _),IntKind.wrap_u8,← Int.natCast_ediv]; omega
def encC (x : T_Code) : List Int :=
  let a := grp x.fA.toNat
  let b := grp x.fB.toNat
  let c := grp x.fC.toNat
  x.fKind :: (if x.fKind = 1 then a ++ b8 x.fBits.toNat
    else if x.fKind = 2 then a ++ b
    else if x.fKind = 3 then x.fOp :: x.fType :: (a ++ (b ++ c))
    else if x.fKind = 4 then x.fType :: x.fTo :: (a ++ b)
    else if x.fKind = 5 then a ++ b
    else if x.fKind = 6 then a ++ b
    else if x.fKind = 7 then a ++ (b ++ (c ++ grp x.fBits.toNat))
    else if x.fKind = 8 then a ++ (b ++ (c ++ grp x.fBits.toNat))
    else if x.fKind = 9 then c ++ grp x.fBits.toNat
    else if x.fKind = 10 then a ++ b
    else if x.fKind = 11 then a ++ b
    else if x.fKind = 12 then a
    else if x.fKind = 13 then x.fType :: a
    else if x.fKind = 14 then a
    else if x.fKind = 15 then a ++ (b ++ c)
    else if x.fKind = 16 then a
    else [x.fTrap])
structure Gd (x : T_Code) : Prop where
  k : 1 ≤ x.fKind ∧ x.fKind ≤ 17
  a : 0 ≤ x.fA ∧ x.fA < 1099511627776
  b : 0 ≤ x.fB ∧ x.fB < 1099511627776
  c : 0 ≤ x.fC ∧ x.fC < 1099511627776
  bits : 0 ≤ x.fBits
  row : 7 ≤ x.fKind → x.fKind ≤ 9 → x.fBits < 1099511627776
theorem j8f {x : T_Code} {f : T_form} (h : f.fbits = false) (l : List Int) : F36_j8 x f l = some l := by
  unfold F36_j8;have : iter (fun s : ((List Int) × Int) => F36_1_b x f s.1 s.2) FUEL (l,(0 : Int)) = some (.go l) := by
    rw [show FUEL = 4611686018427387903 + 1 from rfl,iter_succ];simp only [F36_1_b,h]; rfl
  rw [this]; rfl
theorem j8t {x : T_Code} {f : T_form} {n : Nat} (h : f.fbits = true) (hb : x.fBits = (n : Int)) : Ap (fun l => F36_j8 x f l) (b8 n) := by
  intro l hl;have key := Ap.loop (l := List.range 8) (f := fun s : ((List Int) × Int) => F36_1_b x f s.1 s.2) (fun l => l) (fun i => ((8 * i : Nat) : Int)) (fun i _ => [((n / 2 ^ (8 * i) % 256 : Nat) : Int)]) (by decide)
    (fun i a y hi hy => by
      have hi := range_get hi;simp only [F36_1_b,h,hb];rw [decide_eq_true (by omega),if_pos rfl,if_pos trivial,decide_eq_true (by omega)];simp only [when,if_true,Option.bind_some,Int.toNat_natCast];rw [byte_at n i hi,more1 (by simpa using hy),Option.bind_some,show ((8 * i : Nat) : Int) + 8 = ((8 * (i + 1) : Nat) : Int) by omega,wrap64_in (by omega) (by omega)])
    (fun y => by simp only [F36_1_b]; rfl) l hl
  show F36_j8 x f l = some (l ++ b8 n);unfold F36_j8;have key : iter (fun s : ((List Int) × Int) => F36_1_b x f s.1 s.2) FUEL (l,(0 : Int)) = some (.go (l ++ b8 n)) := key;rw [key]; rfl
theorem jf {x : T_Code} {f : T_form} (h : f.fbits = false) : Ap (fun l => F36_j8 x f l) [] := fun l _ => (j8f h l).trans (by rw [List.append_nil])
theorem F35_w {n : Nat} (hn : n < 1099511627776) : Ap (fun x => F35 x (IntKind.i64.wrap (n : Int))) (grp n) := by
  rw [wrap64_in (by omega) (by omega)]; exact F35_ap hn
theorem F36_ap (x : T_Code) (h : Gd x) : Ap (fun o => F36 o x) (encC x) := by
  obtain ⟨k,op,ty,to,tr,A,B,C,bits⟩ := x;obtain ⟨hk,ha,hb,hc,hbits,hrow⟩ := h;simp only at hk ha hb hc hbits hrow;obtain ⟨a,rfl⟩ := Int.eq_ofNat_of_zero_le ha.1;obtain ⟨b,rfl⟩ := Int.eq_ofNat_of_zero_le hb.1;obtain ⟨c,rfl⟩ := Int.eq_ofNat_of_zero_le hc.1;obtain ⟨bs,rfl⟩ := Int.eq_ofNat_of_zero_le hbits;have ha : a < 1099511627776 := by omega
  have hb : b < 1099511627776 := by omega
  have hc : c < 1099511627776 := by omega
  have hk : k = 1 ∨ k = 2 ∨ k = 3 ∨ k = 4 ∨ k = 5 ∨ k = 6 ∨ k = 7 ∨ k = 8 ∨ k = 9 ∨ k = 10 ∨ k = 11 ∨ k = 12 ∨ k = 13 ∨ k = 14 ∨ k = 15 ∨ k = 16 ∨ k = 17 := by omega
  rcases hk with rfl | rfl | rfl | rfl | rfl | rfl | rfl | rfl | rfl | rfl | rfl | rfl | rfl | rfl | rfl | rfl | rfl
  · simp only [F36,F36_j1,F36_j2,F36_j3,F36_j4,F36_j5,F36_j6,F36_j7,g1,Option.bind_some,Bool.false_eq_true,if_false,if_true,bne_self_eq_false,Int.reduceBNe];exact Ap.cast ((Ap.seq (Ap.more _) (Ap.seq (F35_ap ha) (j8t rfl rfl)))) (by simp [encC])
  · simp only [F36,F36_j1,F36_j2,F36_j3,F36_j4,F36_j5,F36_j6,F36_j7,g2,Option.bind_some,Bool.false_eq_true,if_false,if_true,bne_self_eq_false,Int.reduceBNe];exact Ap.cast ((Ap.seq (Ap.more _) (Ap.seq (F35_ap ha) (Ap.seq (F35_ap hb) (jf rfl))))) (by simp [encC])
  · simp only [F36,F36_j1,F36_j2,F36_j3,F36_j4,F36_j5,F36_j6,F36_j7,g3,Option.bind_some,Bool.false_eq_true,if_false,if_true,bne_self_eq_false,Int.reduceBNe];exact Ap.cast ((Ap.seq (Ap.more _) (Ap.seq (Ap.more _) (Ap.seq (Ap.more _) (Ap.seq (F35_ap ha) (Ap.seq (F35_ap hb) (Ap.seq (F35_ap hc) (jf rfl)))))))) (by simp [encC])
  · simp only [F36,F36_j1,F36_j2,F36_j3,F36_j4,F36_j5,F36_j6,F36_j7,g4,Option.bind_some,Bool.false_eq_true,if_false,if_true,bne_self_eq_false,Int.reduceBNe];exact Ap.cast ((Ap.seq (Ap.more _) (Ap.seq (Ap.more _) (Ap.seq (Ap.more _) (Ap.seq (F35_ap ha) (Ap.seq (F35_ap hb) (jf rfl))))))) (by simp [encC])
  · simp only [F36,F36_j1,F36_j2,F36_j3,F36_j4,F36_j5,F36_j6,F36_j7,g5,Option.bind_some,Bool.false_eq_true,if_false,if_true,bne_self_eq_false,Int.reduceBNe];exact Ap.cast ((Ap.seq (Ap.more _) (Ap.seq (F35_ap ha) (Ap.seq (F35_ap hb) (jf rfl))))) (by simp [encC])
  · simp only [F36,F36_j1,F36_j2,F36_j3,F36_j4,F36_j5,F36_j6,F36_j7,g6,Option.bind_some,Bool.false_eq_true,if_false,if_true,bne_self_eq_false,Int.reduceBNe];exact Ap.cast ((Ap.seq (Ap.more _) (Ap.seq (F35_ap ha) (Ap.seq (F35_ap hb) (jf rfl))))) (by simp [encC])
  · have hr : bs < 1099511627776 := by have := hrow (by decide) (by decide); omega
    simp only [F36,F36_j1,F36_j2,F36_j3,F36_j4,F36_j5,F36_j6,F36_j7,g7,Option.bind_some,Bool.false_eq_true,if_false,if_true,bne_self_eq_false,Int.reduceBNe];exact Ap.cast ((Ap.seq (Ap.more _) (Ap.seq (F35_ap ha) (Ap.seq (F35_ap hb) (Ap.seq (F35_ap hc) (Ap.seq (F35_w hr) (jf rfl))))))) (by simp [encC])
  · have hr : bs < 1099511627776 := by have := hrow (by decide) (by decide); omega
    simp only [F36,F36_j1,F36_j2,F36_j3,F36_j4,F36_j5,F36_j6,F36_j7,g8,Option.bind_some,Bool.false_eq_true,if_false,if_true,bne_self_eq_false,Int.reduceBNe];exact Ap.cast ((Ap.seq (Ap.more _) (Ap.seq (F35_ap ha) (Ap.seq (F35_ap hb) (Ap.seq (F35_ap hc) (Ap.seq (F35_w hr) (jf rfl))))))) (by simp [encC])
  · have hr : bs < 1099511627776 := by have := hrow (by decide) (by decide); omega
    simp only [F36,F36_j1,F36_j2,F36_j3,F36_j4,F36_j5,F36_j6,F36_j7,g9,Option.bind_some,Bool.false_eq_true,if_false,if_true,bne_self_eq_false,Int.reduceBNe];exact Ap.cast ((Ap.seq (Ap.more _) (Ap.seq (F35_ap hc) (Ap.seq (F35_w hr) (jf rfl))))) (by simp [encC])
  · simp only [F36,F36_j1,F36_j2,F36_j3,F36_j4,F36_j5,F36_j6,F36_j7,g10,Option.bind_some,Bool.false_eq_true,if_false,if_true,bne_self_eq_false,Int.reduceBNe];exact Ap.cast ((Ap.seq (Ap.more _) (Ap.seq (F35_ap ha) (Ap.seq (F35_ap hb) (jf rfl))))) (by simp [encC])
  · simp only [F36,F36_j1,F36_j2,F36_j3,F36_j4,F36_j5,F36_j6,F36_j7,g11,Option.bind_some,Bool.false_eq_true,if_false,if_true,bne_self_eq_false,Int.reduceBNe];exact Ap.cast ((Ap.seq (Ap.more _) (Ap.seq (F35_ap ha) (Ap.seq (F35_ap hb) (jf rfl))))) (by simp [encC])
  · simp only [F36,F36_j1,F36_j2,F36_j3,F36_j4,F36_j5,F36_j6,F36_j7,g12,Option.bind_some,Bool.false_eq_true,if_false,if_true,bne_self_eq_false,Int.reduceBNe];exact Ap.cast ((Ap.seq (Ap.more _) (Ap.seq (F35_ap ha) (jf rfl)))) (by simp [encC])
  · simp only [F36,F36_j1,F36_j2,F36_j3,F36_j4,F36_j5,F36_j6,F36_j7,g13,Option.bind_some,Bool.false_eq_true,if_false,if_true,bne_self_eq_false,Int.reduceBNe];exact Ap.cast ((Ap.seq (Ap.more _) (Ap.seq (Ap.more _) (Ap.seq (F35_ap ha) (jf rfl))))) (by simp [encC])
  · simp only [F36,F36_j1,F36_j2,F36_j3,F36_j4,F36_j5,F36_j6,F36_j7,g14,Option.bind_some,Bool.false_eq_true,if_false,if_true,bne_self_eq_false,Int.reduceBNe];exact Ap.cast ((Ap.seq (Ap.more _) (Ap.seq (F35_ap ha) (jf rfl)))) (by simp [encC])
  · simp only [F36,F36_j1,F36_j2,F36_j3,F36_j4,F36_j5,F36_j6,F36_j7,g15,Option.bind_some,Bool.false_eq_true,if_false,if_true,bne_self_eq_false,Int.reduceBNe];exact Ap.cast ((Ap.seq (Ap.more _) (Ap.seq (F35_ap ha) (Ap.seq (F35_ap hb) (Ap.seq (F35_ap hc) (jf rfl)))))) (by simp [encC])
  · simp only [F36,F36_j1,F36_j2,F36_j3,F36_j4,F36_j5,F36_j6,F36_j7,g16,Option.bind_some,Bool.false_eq_true,if_false,if_true,bne_self_eq_false,Int.reduceBNe];exact Ap.cast ((Ap.seq (Ap.more _) (Ap.seq (F35_ap ha) (jf rfl)))) (by simp [encC])
  · simp only [F36,F36_j1,F36_j2,F36_j3,F36_j4,F36_j5,F36_j6,F36_j7,g17,Option.bind_some,Bool.false_eq_true,if_false,if_true,bne_self_eq_false,Int.reduceBNe];exact Ap.cast ((Ap.seq (Ap.more _) (Ap.seq (Ap.more _) (jf rfl)))) (by simp [encC])
end Go.Eng.Cop
namespace Go.Eng.Cop
open Go Go.Eng
set_option linter.unusedSectionVars false
set_option linter.unusedVariables false
set_option linter.unusedSimpArgs false
set_option maxRecDepth 20000
def sm (u : T_Unit) (n x : Int) : Prop := (x == 0) = true ∨ rb x 8 = true ∨ rb x u.fFrame = true ∨ rb x ((List.length u.fParams : Nat) : Int) = true ∨ rb x n = true ∨ rb x ((List.length u.fCode : Nat) : Int) = true
theorem sm0 {u : T_Unit} {n x : Int} (h : (x == 0) = true) : sm u n x := .inl h
theorem sm8 {u : T_Unit} {n x : Int} (h : rb x 8 = true) : sm u n x := .inr (.inl h)
theorem smf {u : T_Unit} {n x : Int} (h : rb x u.fFrame = true) : sm u n x := .inr (.inr (.inl h))
theorem smp {u : T_Unit} {n x : Int} (h : rb x ((List.length u.fParams : Nat) : Int) = true) : sm u n x := .inr (.inr (.inr (.inl h)))
theorem smn {u : T_Unit} {n x : Int} (h : rb x n = true) : sm u n x := .inr (.inr (.inr (.inr (.inl h))))
theorem smc {u : T_Unit} {n x : Int} (h : rb x ((List.length u.fCode : Nat) : Int) = true) : sm u n x := .inr (.inr (.inr (.inr (.inr h))))
end Go.Eng.Cop
namespace Go.Eng.Cop
open Go Go.Eng
set_option linter.unusedSectionVars false
set_option linter.unusedVariables false
set_option linter.unusedSimpArgs false
set_option maxRecDepth 20000
theorem rb_spec {x n : Int} (h : rb x n = true) : 0 ≤ x ∧ x < n := by
  unfold rb at h
  simpa [Bool.and_eq_true] using h
structure Sm (u : T_Unit) (n : Int) : Prop where
  f : 0 ≤ u.fFrame ∧ u.fFrame ≤ 1073741824
  p : u.fParams.length < 1099511627776
  c : u.fCode.length < 1099511627776
  n : n < 1099511627776
theorem F35_eq {n : Nat} (hn : n < 1099511627776) (x : List Int) (h : x.length + (grp n).length ≤ M0) : F35 x (n : Int) = some (x ++ grp n) := F35_ap hn x h
theorem F36_eq (c : T_Code) (hc : Gd c) (x : List Int) (h : x.length + (encC c).length ≤ M0) : F36 x c = some (x ++ encC c) := F36_ap c hc x h
def encU (u : T_Unit) : List Int := grp u.fName.length ++ (u.fName.map (fun c : UInt8 => (c.toNat : Int)) ++ (grp u.fParams.length ++ (u.fParams ++ ([u.fResult] ++ (grp u.fFrame.toNat ++ (grp u.fCode.length ++ u.fCode.flatMap encC))))))
structure GU (u : T_Unit) : Prop where
  n : u.fName.length < 1099511627776
  p : u.fParams.length < 1099511627776
  c : u.fCode.length < 1099511627776
  f : 0 ≤ u.fFrame ∧ u.fFrame < 1099511627776
  g : ∀ x ∈ u.fCode,Gd x
theorem F12_1 (l : List T_Unit) (i : Nat) (u : T_Unit) (x : List Int) (hi : l[i]? = some u) (hl : l.length < 1099511627776) (hu : GU u) (hx : x.length + (encU u).length ≤ M0) : F12_1_b l x (i : Int) = some (.next (x ++ encU u,((i + 1 : Nat) : Int))) := by
  obtain ⟨hn,hp,hc,hf,hg⟩ := hu;obtain ⟨f,hf'⟩ := Int.eq_ofNat_of_zero_le hf.1;have hf40 : f < 1099511627776 := by omega
  have hil := lt_of hi;simp only [encU,List.length_append] at hx;unfold F12_1_b;rw [lt_dec hil,if_pos rfl,idx_some hi,Option.bind_some,F35_eq hn x (by omega),Option.bind_some,more1 (by simp only [List.length_append]; omega),Option.bind_some,F35_eq hp _ (by simp only [List.length_append]; omega),Option.bind_some];have e1 := Ap.loop (l := u.fParams) (f := fun s : ((List Int) × Int) => F12_2_b l (i : Int) u s.1 s.2) (fun l => l) (fun i => (i : Int)) (fun _ a => [a]) (by omega)
    (fun j a y hj hy => by
      have := lt_of hj;simp only [F12_2_b,lt_dec this,if_true,idx_some hj,Option.bind_some];rw [more1 (by simpa using hy),Option.bind_some,wnat (by omega)])
    (fun y => by simp only [F12_2_b,ge_dec,Bool.false_eq_true,if_false]) (x ++ grp u.fName.length ++ u.fName.map (fun c : UInt8 => (c.toNat : Int)) ++ grp u.fParams.length)
  have e0 : (u.fParams.mapIdx fun _ a => [a]).flatten = u.fParams := by rw [mapIdx_c]; simp
  rw [e0] at e1;have e1 := e1 (by simp only [List.length_append]; omega);have e1 : iter (fun s : ((List Int) × Int) => F12_2_b l (i : Int) u s.1 s.2) FUEL (x ++ grp u.fName.length ++ u.fName.map (fun c : UInt8 => (c.toNat : Int)) ++ grp u.fParams.length,(0 : Int)) = _ := e1;rw [e1,Option.bind_some]
  simp only
  rw [more1 (by simp only [List.length_append]; omega),Option.bind_some,hf',F35_eq hf40 _ (by rw [hf'] at hx; simp only [Int.toNat_natCast] at hx; simp only [List.length_append]; omega),Option.bind_some,F35_eq hc _ (by rw [hf'] at hx; simp only [Int.toNat_natCast] at hx; simp only [List.length_append]; omega),Option.bind_some];have e2 := Ap.loop (l := u.fCode) (f := fun s : ((List Int) × Int) => F12_3_b l (i : Int) u s.1 s.2) (fun l => l) (fun i => (i : Int)) (fun _ a => encC a) (by omega)
    (fun j a y hj hy => by
      have := lt_of hj;simp only [F12_3_b,lt_dec this,if_true,idx_some hj,Option.bind_some];rw [F36_eq a (hg a (List.mem_of_getElem? hj)) y hy,Option.bind_some,wnat (by omega)])
    (fun y => by simp only [F12_3_b,ge_dec,Bool.false_eq_true,if_false]) (x ++ grp u.fName.length ++ u.fName.map (fun c : UInt8 => (c.toNat : Int)) ++ grp u.fParams.length ++ u.fParams ++ [u.fResult] ++ grp f ++ grp u.fCode.length)
  rw [mapIdx_c] at e2;have e2 := e2 (by rw [hf'] at hx; simp only [Int.toNat_natCast] at hx; simp only [List.length_append]; omega);have e2 : iter (fun s : ((List Int) × Int) => F12_3_b l (i : Int) u s.1 s.2) FUEL (x ++ grp u.fName.length ++ u.fName.map (fun c : UInt8 => (c.toNat : Int)) ++ grp u.fParams.length ++ u.fParams ++ [u.fResult] ++ grp f ++ grp u.fCode.length,(0 : Int)) = _ := e2;rw [e2,Option.bind_some]
  simp only
  rw [wnat (by omega)];simp only [encU,hf',Int.toNat_natCast,List.append_assoc]
def putL (l : List T_Unit) : List Int := grp l.length ++ l.flatMap encU
theorem F12_ok (l : List T_Unit) {j : Int} (hk : F20 l = some (0,j)) (hl : l.length < 1099511627776) (hu : ∀ u ∈ l,GU u) (hx : (putL l).length ≤ M0) : F12 l = some (putL l,0) := by
  unfold F12;rw [hk,Option.bind_some];simp only [putL,List.length_append] at hx;rw [if_neg (by simp),F35_eq hl [] (by rw [List.length_nil,Nat.zero_add]; omega),Option.bind_some,List.nil_append];have e := Ap.loop (l := l) (f := fun s : ((List Int) × Int) => F12_1_b l s.1 s.2) (fun l => l) (fun i => (i : Int)) (fun _ a => encU a) (by omega)
    (fun i a y hi hy => F12_1 l i a y hi hl (hu a (List.mem_of_getElem? hi)) hy)
    (fun y => by simp only [F12_1_b,ge_dec,Bool.false_eq_true,if_false]) (grp l.length)
  rw [mapIdx_c] at e;have e : iter (fun s : ((List Int) × Int) => F12_1_b l s.1 s.2) FUEL (grp l.length,(0 : Int)) = _ := e (by omega);rw [e]; rfl
theorem F12_no (l : List T_Unit) {e j : Int} (hk : F20 l = some (e,j)) (he : e ≠ 0) : F12 l = some ([],e) := by
  unfold F12;rw [hk,Option.bind_some]
  simp only
  rw [if_pos (by simpa using he)]
structure RU (u : T_Unit) : Prop where
  n : u.fName.length ≤ 4000
  p : u.fParams.length ≤ 4000
  c : u.fCode.length ≤ 4000
  b : ∀ x ∈ u.fCode,0 ≤ x.fBits
theorem encC_len (x : T_Code) : (encC x).length ≤ 64 := by
  have g : ∀ n,(grp n).length ≤ 9 := fun n => grpF_len 8 n
  have h1 := g x.fA.toNat;have h2 := g x.fB.toNat;have h3 := g x.fC.toNat;have h4 := g x.fBits.toNat;have h5 := b8_len x.fBits.toNat;have key : ∀ (c : Prop) [Decidable c] (a b : List Int),a.length ≤ 63 → b.length ≤ 63 → (if c then a else b).length ≤ 63 := by
    intro c _ a b h1 h2; split <;> assumption
  unfold encC
  dsimp only
  generalize grp x.fA.toNat = ga at h1 ⊢
  generalize grp x.fB.toNat = gb at h2 ⊢
  generalize grp x.fC.toNat = gc at h3 ⊢
  generalize grp x.fBits.toNat = gd at h4 ⊢
  generalize b8 x.fBits.toNat = ge at h5 ⊢
  refine Nat.succ_le_succ ?_
  repeat' (refine key _ _ _ ?_ ?_)
  all_goals (try simp only [List.length_cons,List.length_append,List.length_nil])
  all_goals omega
theorem flat_le {α : Type} (f : α → List Int) (m : Nat) (h : ∀ a,(f a).length ≤ m) : ∀ l : List α,(l.flatMap f).length ≤ l.length * m
  | [] => by simp
  | a :: l => by
    have := flat_le f m h l;have := h a;rw [List.flatMap_cons,List.length_append,List.length_cons,Nat.succ_mul]; omega
end Go.Eng.Cop
namespace Go.Eng.Cop
open Go Go.Eng
set_option linter.unusedSectionVars false
set_option linter.unusedVariables false
set_option linter.unusedSimpArgs false
set_option maxRecDepth 20000
def BL (l : List Int) : Prop := ∀ c ∈ l,0 ≤ c ∧ c < 256
theorem BL.tail {c : Int} {l : List Int} (h : BL (c :: l)) : BL l := fun x hx => h x (by simp [hx])
theorem BL.drop {l : List Int} (h : BL l) (n : Nat) : BL (l.drop n) := fun x hx => h x (List.mem_of_mem_drop hx)
theorem BL.take {l : List Int} (h : BL l) (n : Nat) : BL (l.take n) := fun x hx => h x (List.mem_of_mem_take hx)
def pByte : List Int → Option (Int × List Int)
  | [] => none
  | c :: r => some (c,r)
def pNumF : Nat → Nat → Nat → List Int → Option (Int × List Int)
  | 0,_,_,_ => none
  | _ + 1,_,_,[] => none
  | k + 1,s,a,c :: r => if c < 128 then some (((a + (c % 128).toNat * 2 ^ s : Nat) : Int),r) else pNumF k (s + 7) (a + (c % 128).toNat * 2 ^ s) r
def pNum (r : List Int) : Option (Int × List Int) := pNumF 5 0 0 r
def pTake (n : Nat) (r : List Int) : Option (List Int × List Int) := if n ≤ r.length then some (r.take n,r.drop n) else none
def pB8F : Nat → Nat → Nat → List Int → Option (Int × List Int)
  | 0,_,a,r => some ((a : Int),r)
  | _ + 1,_,_,[] => none
  | k + 1,i,a,c :: r => pB8F k (i + 1) (a + c.toNat * 2 ^ (8 * i)) r
def pB8 (r : List Int) : Option (Int × List Int) := pB8F 8 0 0 r
def Suf {α : Type} (P : List Int → Option (α × List Int)) : Prop := ∀ r x t,P r = some (x,t) → ∃ d,d ≠ [] ∧ r = d ++ t
theorem pByte_suf : Suf pByte := by
  intro r x t h;cases r with
  | nil => cases h
  | cons c r => cases h; exact ⟨[x],by simp,rfl⟩
theorem pNumF_suf : ∀ k s a,Suf (pNumF k s a)
  | 0,s,a,r,x,t,h => by simp [pNumF] at h
  | k + 1,s,a,[],x,t,h => by simp [pNumF] at h
  | k + 1,s,a,c :: r,x,t,h => by
    unfold pNumF at h
    split at h
    · cases h; exact ⟨[c],by simp,rfl⟩
    · obtain ⟨d,h1,h2⟩ := pNumF_suf k _ _ r x t h;exact ⟨c :: d,by simp,by rw [h2]; rfl⟩
theorem pNum_suf : Suf pNum := pNumF_suf 5 0 0
theorem pB8F_suf : ∀ k i a,0 < k → Suf (pB8F k i a)
  | 0,i,a,hk,r,x,t,h => by omega
  | k + 1,i,a,hk,[],x,t,h => by simp [pB8F] at h
  | 1,i,a,hk,c :: r,x,t,h => by
    simp only [pB8F] at h;cases h; exact ⟨[c],by simp,rfl⟩
  | k + 2,i,a,hk,c :: r,x,t,h => by
    rw [pB8F] at h;obtain ⟨d,h1,h2⟩ := pB8F_suf (k + 1) _ _ (by omega) r x t h;exact ⟨c :: d,by simp,by rw [h2]; rfl⟩
theorem pB8_suf : Suf pB8 := pB8F_suf 8 0 0 (by omega)
theorem Suf.bl {α : Type} {P : List Int → Option (α × List Int)} (hP : Suf P) {r t : List Int} {x : α} (h : P r = some (x,t)) (hr : BL r) : BL t := by
  obtain ⟨d,_,rfl⟩ := hP r x t h;exact fun c hc => hr c (by simp [hc])
theorem Suf.lt {α : Type} {P : List Int → Option (α × List Int)} (hP : Suf P) {r t : List Int} {x : α} (h : P r = some (x,t)) : t.length < r.length := by
  obtain ⟨d,hd,rfl⟩ := hP r x t h;have := List.length_pos_iff.mpr hd;rw [List.length_append]; omega
theorem Suf.bind {α β : Type} {P : List Int → Option (α × List Int)} {Q : α → List Int → Option (β × List Int)} (hP : Suf P) (hQ : ∀ a r x t,Q a r = some (x,t) → ∃ d,r = d ++ t) : Suf (fun r => (P r).bind fun q => Q q.1 q.2) := by
  intro r x t h;simp only [Option.bind_eq_some_iff] at h;obtain ⟨⟨a,r1⟩,h1,h2⟩ := h;obtain ⟨d,hd,rfl⟩ := hP r a r1 h1;obtain ⟨d2,rfl⟩ := hQ a r1 x t h2;exact ⟨d ++ d2,by simp [hd],by rw [List.append_assoc]⟩
def res {α : Type} (o : Option (α × List Int)) : Option (Option (α × T_reader)) := some (o.map fun q => (q.1,(⟨q.2⟩ : T_reader)))
theorem F80_is (r : List Int) (n : Nat) : F80 ⟨r⟩ (n : Int) = res (pTake n r) := by
  unfold F80 pTake res
  by_cases h : n ≤ r.length
  · rw [decide_eq_false (by show ¬ ((n : Int) > (r.length : Int)); omega),if_neg (by simp),if_pos h];have e1 : part r 0 (n : Int) = some (r.take n) := by
      have := part_nat (l := r) (a := 0) (b := n) (by omega) h
      simpa using this
    have e2 : part r (n : Int) (r.length : Int) = some (r.drop n) := by
      have := part_nat (l := r) (a := n) (b := r.length) h (by omega);rw [this,List.take_of_length_le (by rw [List.length_drop]; exact Nat.le_refl _)]
    simp only [e1,e2,Option.bind_some,Option.map_some]
  · rw [decide_eq_true (by show (n : Int) > (r.length : Int); omega),if_pos rfl,if_neg h]; rfl
theorem take1 (r : List Int) : F80 ⟨r⟩ (1 : Int) = some ((pByte r).map fun q => ([q.1],(⟨q.2⟩ : T_reader))) := by
  have := F80_is r 1;rw [show ((1 : Nat) : Int) = 1 from rfl] at this;rw [this];cases r with
  | nil => rfl
  | cons c r => simp [pTake,res,pByte]
theorem and127 (c : Int) (h : 0 ≤ c ∧ c < 256) : IntKind.u8.wrap ((BitVec.ofInt IntKind.u8.bits c &&& BitVec.ofInt IntKind.u8.bits (127 : Int)).toNat : Int) = c % 128 := by
  have key : ∀ m : Nat,m < 256 → IntKind.u8.wrap ((BitVec.ofInt IntKind.u8.bits (m : Int) &&& BitVec.ofInt IntKind.u8.bits (127 : Int)).toNat : Int) = ((m : Int) % 128) := by decide +kernel
  obtain ⟨n,rfl⟩ := Int.eq_ofNat_of_zero_le h.1;exact key n (by omega)
theorem or_add {a d s : Nat} (h : a < 2 ^ s) : a ||| d * 2 ^ s = a + d * 2 ^ s := by
  have := Nat.two_pow_add_eq_or_of_lt h d;rw [Nat.or_comm,Nat.mul_comm d,← this,Nat.add_comm]
theorem ofInt_nat {w n : Nat} (h : n < 2 ^ w) : (BitVec.ofInt w (n : Int)).toNat = n := by
  rw [BitVec.toNat_ofInt];have : ((2 ^ w : Nat) : Int) = (2 : Int) ^ w := by push_cast; rfl
  rw [Int.emod_eq_of_lt (by omega) (by omega)]; rfl
theorem pow_le {s : Nat} (h : s + 7 ≤ 35) : 2 ^ s * 128 ≤ 34359738368 := by
  have : 2 ^ (s + 7) ≤ 2 ^ 35 := Nat.pow_le_pow_right (by decide) h;rw [Nat.pow_add] at this;exact this
theorem num_step {a s : Nat} {c : Int} (hc : 0 ≤ c ∧ c < 256) (ha : a < 2 ^ s) (hs : s + 7 ≤ 35) :
    IntKind.i64.wrap ((BitVec.ofInt IntKind.i64.bits (a : Int) ||| BitVec.ofInt IntKind.i64.bits (IntKind.i64.wrap ((IntKind.i64.wrap (IntKind.u8.wrap ((BitVec.ofInt IntKind.u8.bits c &&& BitVec.ofInt IntKind.u8.bits (127 : Int)).toNat : Int))) * 2 ^ (min (Int.toNat (s : Int)) IntKind.i64.bits)))).toNat : Int) = ((a + (c % 128).toNat * 2 ^ s : Nat) : Int) ∧ a + (c % 128).toNat * 2 ^ s < 2 ^ (s + 7) := by
  obtain ⟨d,hd⟩ := Int.eq_ofNat_of_zero_le (show 0 ≤ c % 128 by omega);have hd7 : d < 128 := by omega
  have hp := pow_le hs;have hmul : d * 2 ^ s ≤ 127 * 2 ^ s := Nat.mul_le_mul_right _ (by omega);have hpos : 0 < 2 ^ s := Nat.pow_pos (by decide);have e0 : min (Int.toNat (s : Int)) IntKind.i64.bits = s := by
    show min s 64 = s; omega
  have e1 : (d : Int) * 2 ^ s = ((d * 2 ^ s : Nat) : Int) := by push_cast; rfl
  have hb : IntKind.i64.bits = 64 := rfl;rw [and127 c hc,hd,e0,wrap64_in (x := (d : Int)) (by omega) (by omega),e1,wrap64_in (x := ((d * 2 ^ s : Nat) : Int)) (by omega) (by omega),BitVec.toNat_or,hb,ofInt_nat (show a < 2 ^ 64 by omega),ofInt_nat (show d * 2 ^ s < 2 ^ 64 by omega),or_add ha];rw [Int.toNat_natCast];refine ⟨wrap64_in (by omega) (by omega),?_⟩;rw [Nat.pow_add]; omega
theorem F61_run (j : Nat) : ∀ (k s a : Nat) (r : List Int),s + 7 * k = 35 → a < 2 ^ s → BL r → k < j →
    ((iter (fun s : ((List Int) × Int × Int) => F61_1_b s.1 s.2.1 s.2.2) j (r,(a : Int),(s : Int))).bind fun o => match o with
      | .ret r => some r
      | .go (y102) => some none) = res (pNumF k s a r) := by
  induction j with
  | zero => intro k s a r _ _ _ h; omega
  | succ j ih =>
    intro k s a r hs ha hr hk;rw [iter_succ];cases k with
    | zero =>
      have : s = 35 := by omega
      subst this;simp only [F61_1_b]
      rfl
    | succ k =>
      cases r with
      | nil =>
        simp only [F61_1_b];rw [decide_eq_true (by omega),if_pos rfl,take1]
        rfl
      | cons c r =>
        have hc := hr c (by simp);obtain ⟨q1,q2⟩ := num_step hc ha (show s + 7 ≤ 35 by omega);simp only [F61_1_b];rw [decide_eq_true (by omega),if_pos rfl,take1];simp only [pByte,Option.map_some,pndL,Option.bind_some];rw [show idx [c] (0 : Int) = some c from rfl,Option.bind_some,decide_eq_true (show 0 ≤ (s : Int) by omega)];simp only [when,if_true,Option.bind_some];rw [q1,pNumF]
        by_cases h1 : c < 128
        · rw [decide_eq_true h1,if_pos rfl,if_pos h1]; rfl
        · rw [decide_eq_false h1,if_neg (by simp),if_neg h1];have e : IntKind.i64.wrap ((s : Int) + 7) = ((s + 7 : Nat) : Int) := by rw [wrap64_in (by omega) (by omega)]; omega
          simp only [Option.bind_some];rw [e];exact ih k (s + 7) _ r (by omega) q2 hr.tail (by omega)
theorem F61_is {r : List Int} (hr : BL r) : F61 ⟨r⟩ = res (pNum r) := by
  unfold F61;exact F61_run FUEL 5 0 0 r (by omega) (by decide) hr (by decide)
end Go.Eng.Cop
