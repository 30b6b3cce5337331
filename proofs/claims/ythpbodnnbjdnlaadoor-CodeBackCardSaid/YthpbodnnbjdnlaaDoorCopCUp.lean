/- Functions of this seat, run on unknown values by the rules of the small machine (no condition beyond those stated). -/
import Derived.Test.YthpbodnnbjdnlaaDoorCopP9Up
import Derived.Test.YthpbodnnbjdnlaaDoorCopB2Up
set_option linter.unusedSectionVars false
namespace Go.Eng.Cop
open Go Go.Eng
set_option linter.unusedSectionVars false
set_option linter.unusedVariables false
set_option linter.unusedSimpArgs false
set_option maxRecDepth 20000
def isB (c : Int) : Prop := 0 ≤ c ∧ c < 256
theorem BL.app {a b : List Int} (h1 : BL a) (h2 : BL b) : BL (a ++ b) := fun c hc => (List.mem_append.mp hc).elim (h1 c) (h2 c)
theorem BL.cons {c : Int} {l : List Int} (h : isB c) (h2 : BL l) : BL (c :: l) := fun x hx => by
  cases hx with
  | head => exact h
  | tail _ hx => exact h2 x hx
theorem BL.nil : BL [] := fun c h => by cases h
theorem BL.flat {α : Type} {f : α → List Int} : ∀ {l : List α},(∀ a ∈ l,BL (f a)) → BL (l.flatMap f)
  | [],_ => BL.nil
  | a :: l,h => by
    rw [List.flatMap_cons];exact (h a (by simp)).app (BL.flat fun b hb => h b (by simp [hb]))
theorem grp_bl {n : Nat} (h : n < 1099511627776) : BL (grp n) := fun c hc => grpF_byte 8 n (by omega) c hc
theorem b8_bl (n : Nat) : BL (b8 n) := by
  intro c hc;unfold b8 at hc;simp only [List.mem_flatten,List.mem_mapIdx] at hc;obtain ⟨l,⟨i,hi,rfl⟩,hc⟩ := hc;have : c = ((n / 2 ^ (8 * i) % 256 : Nat) : Int) := by simpa using hc
  subst this;have := Nat.mod_lt (n / 2 ^ (8 * i)) (show 0 < 256 by decide)
  omega
theorem toByte_inj {a b : Int} (ha : isB a) (hb : isB b) (h : toByte a = toByte b) : a = b := by
  unfold toByte at h;unfold isB at ha hb;have := congrArg UInt8.toNat h;simp only [UInt8.toNat_ofNat'] at this
  omega
theorem map_inj : ∀ {a b : List Int},BL a → BL b → a.map toByte = b.map toByte → a = b
  | [],[],_,_,_ => rfl
  | [],y :: b,_,_,h => by simp at h
  | x :: a,[],_,_,h => by simp at h
  | x :: a,y :: b,ha,hb,h => by
    simp only [List.map_cons,List.cons.injEq] at h;rw [toByte_inj (ha x (by simp)) (hb y (by simp)) h.1,map_inj ha.tail hb.tail h.2]
theorem F40_is {a b : List Int} (ha : BL a) (hb : BL b) : F40 a b = some (decide (a = b)) := by
  unfold F40;rw [bstr_bl ha,bstr_bl hb];simp only [Option.bind_some]
  congr 1
  by_cases h : a = b
  · subst h; simp
  · rw [decide_eq_false h];simp only [beq_eq_false_iff_ne,ne_eq];exact fun e => h (map_inj ha hb e)
theorem F16_same (x : List Int) (h : x.length < 4611686018427387904) : F16 x x = some true := by
  unfold F16;rw [if_neg (by simp)];have e := loop_all (l := x) (f := fun s : (Int) => F16_1_b x x s) (a0 := ()) (r0 := false) (fun _ _ => true) h (fun i a h => by
    have hi := lt_of h;simp only [F16_1_b,lt_dec hi,if_true,idx_some h,Option.bind_some,wnat (show i ≤ 4611686018427387904 by omega),bne_self_eq_false,Bool.false_eq_true,if_false]) (by simp only [F16_1_b,ge_dec,Bool.false_eq_true,if_false])
  rw [e,allI_const]; simp
theorem F66_same (x : List Int) (h : x.length < 4611686018427387904) : F66 x x = some true := by
  unfold F66;rw [if_neg (by simp)];have e := loop_all (l := x) (f := fun s : (Int) => F66_1_b x x s) (a0 := ()) (r0 := false) (fun _ _ => true) h (fun i a h => by
    have hi := lt_of h;simp only [F66_1_b,lt_dec hi,if_true,idx_some h,Option.bind_some,wnat (show i ≤ 4611686018427387904 by omega),bne_self_eq_false,Bool.false_eq_true,if_false]) (by simp only [F66_1_b,ge_dec,Bool.false_eq_true,if_false])
  rw [e,allI_const]; simp
theorem F67_same (x : List T_Code) (h : x.length < 4611686018427387904) : F67 x x = some true := by
  unfold F67;rw [if_neg (by simp)];have e := loop_all (l := x) (f := fun s : (Int) => F67_1_b x x s) (a0 := ()) (r0 := false) (fun _ _ => true) h (fun i a h => by
    have hi := lt_of h;simp only [F67_1_b,lt_dec hi,if_true,idx_some h,Option.bind_some,wnat (show i ≤ 4611686018427387904 by omega),decide_true,Bool.not_true,Bool.false_eq_true,if_false]) (by simp only [F67_1_b,ge_dec,Bool.false_eq_true,if_false])
  rw [e,allI_const]; simp
theorem F17_same (x : List T_Unit) (h : x.length < 4611686018427387904) (hu : ∀ u ∈ x,u.fParams.length < 4611686018427387904 ∧ u.fCode.length < 4611686018427387904) : F17 x x = some true := by
  unfold F17;rw [if_neg (by simp)];have e := loop_all (l := x) (f := fun s : (Int) => F17_1_b x x s) (a0 := ()) (r0 := false) (fun _ _ => true) h (fun i a h => by
    have hi := lt_of h;obtain ⟨h1,h2⟩ := hu a (List.mem_of_getElem? h);have : F43 a a = some true := by
      unfold F43;simp only [beq_self_eq_true,if_true,F66_same a.fParams h1,F67_same a.fCode h2,Option.bind_some]
    simp only [F17_1_b,lt_dec hi,if_true,idx_some h,Option.bind_some,this,wnat (show i ≤ 4611686018427387904 by omega),Bool.not_true,Bool.false_eq_true,if_false]) (by simp only [F17_1_b,ge_dec,Bool.false_eq_true,if_false])
  rw [e,allI_const]; simp
def wt (u : T_Unit) : Nat := u.fCode.length + u.fParams.length + u.fName.length
def tot (l : List T_Unit) : Nat := (l.map wt).sum
theorem tot_snoc {l : List T_Unit} {i : Nat} {u : T_Unit} (h : l[i]? = some u) : tot (l.take (i + 1)) = tot (l.take i) + wt u := by
  unfold tot;rw [List.take_add_one,h]
  simp
theorem tot_ge {l : List T_Unit} {u : T_Unit} (h : u ∈ l) : wt u ≤ tot l := by
  induction l with
  | nil => cases h
  | cons a l ih =>
    unfold tot at ih ⊢;rw [List.map_cons,List.sum_cons];cases h with
    | head => omega
    | tail _ h => have := ih h; omega
structure SzU (u : T_Unit) : Prop where
  n : Sz u.fName
  p : Sz u.fParams
  c : Sz u.fCode
  b : ∀ x ∈ u.fCode,0 ≤ x.fBits
theorem great_no (l : List T_Unit) (hl : Sz l) (hu : ∀ u ∈ l,SzU u) (h : F8 l = some false) : l.length ≤ 100 ∧ ∀ u ∈ l,u.fCode.length ≤ 600 ∧ u.fParams.length ≤ 2000 ∧ u.fName.length ≤ 2000 := by
  unfold Sz at hl;unfold F8 at h;have key : ∃ o,iter (fun s : (Int × Int) => F8_1_b l s.1 s.2) FUEL ((0 : Int),(0 : Int)) = some o ∧ (match o with | .ret r => r = true | .go a => a > 2000 ∨ (a = (tot l : Int) ∧ ∀ u ∈ l,u.fCode.length ≤ 600)) := by
    refine iter_ok (I := fun m s => ∃ i : Nat,i ≤ l.length ∧ m = l.length - i ∧ s.2 = (i : Int) ∧ s.1 = (tot (l.take i) : Int) ∧ tot (l.take i) ≤ 500000000000000 ∧ ∀ u ∈ l.take i,u.fCode.length ≤ 600) ?_ FUEL l.length _ ⟨0,by omega,by omega,rfl,rfl,by simp [tot],fun u h => by simp at h⟩ (by unfold FUEL; omega);rintro m ⟨n,i'⟩ ⟨i,hi,rfl,hi',hn,hs,hc⟩;simp only at hi' hn;subst hi';subst hn;unfold F8_1_b
    by_cases hil : i < l.length
    · have hb : l[i]? = some l[i] := List.getElem?_eq_getElem hil
      generalize l[i] = u at hb
      obtain ⟨z1,z2,z3,_⟩ := hu u (List.mem_of_getElem? hb);unfold Sz at z1 z2 z3;simp only [lt_dec hil,if_true,idx_some hb,Option.bind_some]
      by_cases h2 : (tot (l.take i) : Int) ≤ 2000
      · rw [decide_eq_true h2,if_pos rfl]
        by_cases h6 : ((List.length u.fCode : Nat) : Int) > 600
        · rw [decide_eq_true h6]; exact ⟨_,rfl,rfl⟩
        · rw [decide_eq_false h6,if_neg (by simp)];have et := tot_snoc hb;refine ⟨_,rfl,l.length - (i + 1),by omega,i + 1,by omega,rfl,wnat (show i ≤ 4611686018427387904 by omega),?_,by rw [et]; unfold wt; omega,?_⟩
          · simp only
            rw [wrap64_in (x := (tot (l.take i) : Int) + ((List.length u.fCode : Nat) : Int)) (by omega) (by omega),wrap64_in (x := (tot (l.take i) : Int) + ((List.length u.fCode : Nat) : Int) + ((List.length u.fParams : Nat) : Int)) (by omega) (by omega),wrap64_in (by omega) (by omega),et];unfold wt; omega
          · intro v hv;rw [List.take_add_one,hb] at hv;rcases List.mem_append.mp hv with hv | hv
            · exact hc v hv
            · have : v = u := by simpa using hv
              subst this; omega
      · rw [decide_eq_false h2,if_neg (by simp)];exact ⟨_,rfl,.inl (by omega)⟩
    · have : i = l.length := by omega
      subst this;simp only [ge_dec,Bool.false_eq_true,if_false];rw [List.take_length] at hc ⊢;exact ⟨_,rfl,.inr ⟨rfl,hc⟩⟩
  obtain ⟨o,ho,hp⟩ := key;rw [ho,Option.bind_some] at h;cases o with
  | ret r => simp only at hp h; rw [hp] at h; cases h
  | go a =>
    simp only at hp h
    split at h
    · cases h
    · rename_i ha
      have ha : ¬ a > 2000 := by simpa using ha
      rcases hp with hp | ⟨rfl,hc⟩
      · exact absurd hp ha
      · have h100 : ¬ ((List.length l : Nat) : Int) > 100 := by simpa using h
        refine ⟨by omega,fun u hu => ?_⟩;have := tot_ge hu;unfold wt at this;exact ⟨hc u hu,by omega,by omega⟩
theorem awake5 : F9 = some true := by kernel_rfl
end Go.Eng.Cop
namespace Go.Eng.Cop
open Go Go.Eng
set_option linter.unusedSectionVars false
set_option linter.unusedVariables false
set_option linter.unusedSimpArgs false
set_option maxRecDepth 20000
def Al {α : Type} (R : α → Prop) (P : List Int → Option (α × List Int)) : Prop := ∀ r x t,BL r → r.length ≤ 10000000 → P r = some (x,t) → R x ∧ BL t ∧ t.length ≤ 10000000
theorem Al.bind {α β : Type} {R : α → Prop} {R2 : β → Prop} {P : List Int → Option (α × List Int)} {Q : α → List Int → Option (β × List Int)} (hP : Al R P) (hQ : ∀ a,R a → Al R2 (Q a)) : Al R2 (fun r => (P r).bind fun q => Q q.1 q.2) := by
  intro r x t hb hl h;simp only [Option.bind_eq_some_iff] at h;obtain ⟨⟨a,r1⟩,h1,h2⟩ := h;obtain ⟨q1,q2,q3⟩ := hP r a r1 hb hl h1;exact hQ a q1 r1 x t q2 q3 h2
theorem al_ret {α : Type} {R : α → Prop} {a : α} (h : R a) : Al R (fun r => some (a,r)) := fun r x t hb hl e => by cases e; exact ⟨h,hb,hl⟩
theorem al_suf {α : Type} {P : List Int → Option (α × List Int)} {R : α → Prop} (hs : Suw P) (h : ∀ r x t,BL r → r.length ≤ 10000000 → P r = some (x,t) → R x) : Al R P :=
  fun r x t hb hl e => ⟨h r x t hb hl e,hs.bl e hb,by have := hs.le e; omega⟩
theorem pByte_al : Al isB pByte := al_suf pByte_suf.w fun r x t hb _ h => by
  cases r with
  | nil => cases h
  | cons c r => cases h; exact hb x (by simp)
theorem pNum_al : Al (fun x => 0 ≤ x) pNum := al_suf pNum_suf.w fun r x t hb _ h => (pNum_rng h).1
def is64 (x : Int) : Prop := 0 ≤ x ∧ x < 18446744073709551616
theorem leF_lt : ∀ (l : List Int) (i a : Nat),BL l → a < 2 ^ (8 * i) → leF i a l < 2 ^ (8 * (i + l.length))
  | [],i,a,_,h => by simpa [leF] using h
  | c :: l,i,a,hb,h => by
    rw [leF];have hc := hb c (by simp);have hm : c.toNat * 2 ^ (8 * i) ≤ 255 * 2 ^ (8 * i) := Nat.mul_le_mul_right _ (by omega);have := leF_lt l (i + 1) (a + c.toNat * 2 ^ (8 * i)) hb.tail (by rw [show 8 * (i + 1) = 8 * i + 8 by omega,Nat.pow_add]; omega);rw [List.length_cons,show i + (l.length + 1) = i + 1 + l.length by omega]; exact this
theorem pB8_al : Al is64 pB8 := al_suf pB8_suf.w fun r x t hb _ h => by
  unfold pB8 at h;rw [pB8F_is] at h
  split at h
  · rename_i h8
    cases h;have := leF_lt (r.take 8) 0 0 (hb.take 8) (by decide);have e : (r.take 8).length = 8 := by rw [List.length_take]; omega
    rw [e] at this;have e2 : (2 : Nat) ^ (8 * (0 + 8)) = 18446744073709551616 := by decide
    rw [e2] at this;exact ⟨by omega,by omega⟩
  · cases h
theorem pTake_al (n : Nat) : Al (fun l => BL l ∧ l.length ≤ 10000000) (pTake n) := al_suf (pTake_suw n) fun r x t hb hl h => by
  unfold pTake at h
  split at h
  · cases h; exact ⟨hb.take n,by rw [List.length_take]; omega⟩
  · cases h
theorem pRep_al {α : Type} {R : α → Prop} {P : List Int → Option (α × List Int)} (hs : Suf P) (hP : Al R P) (n : Nat) : Al (fun l => (∀ a ∈ l,R a) ∧ l.length ≤ 10000000) (pRep P n) := by
  have key : ∀ (n : Nat) (r : List Int) (x : List α) (t : List Int),BL r → r.length ≤ 10000000 → pRep P n r = some (x,t) → ∀ a ∈ x,R a := by
    intro n
    induction n with
    | zero => intro r x t _ _ h; cases h; intro a ha; cases ha
    | succ n ih =>
      intro r x t hb hl h;rw [pRep] at h;simp only [Option.bind_eq_some_iff] at h;obtain ⟨⟨a,r1⟩,h1,⟨b,r2⟩,h2,h3⟩ := h;simp only [Option.some.injEq,Prod.mk.injEq] at h3;obtain ⟨rfl,rfl⟩ := h3;obtain ⟨q1,q2,q3⟩ := hP r a r1 hb hl h1;intro c hc;cases hc with
      | head => exact q1
      | tail _ hc => exact ih r1 b r2 q2 q3 h2 c hc
  exact al_suf (pRep_suw hs.w n) fun r x t hb hl h => ⟨key n r x t hb hl h,by have := pRep_len hs n r x t h; omega⟩
structure RD (x : T_Code) : Prop where
  b : is64 x.fBits
  k : isB x.fKind
  o : isB x.fOp
  t : isB x.fType
  u : isB x.fTo
  r : isB x.fTrap
theorem is0 : isB 0 := ⟨by decide,by decide⟩
theorem is64_0 : is64 0 := ⟨by decide,by decide⟩
theorem is64_w (x : Int) : is64 (IntKind.u64.wrap x) := by unfold is64; rw [IntKind.wrap_u64]; omega
theorem isk (k : Int) (h : decide (0 ≤ k ∧ k < 256) = true) : isB k := by have := of_decide_eq_true h; exact this
theorem pK_al (k : Int) : Al RD (pK k) := by
  by_cases hk : 1 ≤ k ∧ k ≤ 17
  case neg => intro r x t hb hl h; rw [pK_no hk] at h; cases h
  have hk' : k = 1 ∨ k = 2 ∨ k = 3 ∨ k = 4 ∨ k = 5 ∨ k = 6 ∨ k = 7 ∨ k = 8 ∨ k = 9 ∨ k = 10 ∨ k = 11 ∨ k = 12 ∨ k = 13 ∨ k = 14 ∨ k = 15 ∨ k = 16 ∨ k = 17 := by omega
  rcases hk' with rfl | rfl | rfl | rfl | rfl | rfl | rfl | rfl | rfl | rfl | rfl | rfl | rfl | rfl | rfl | rfl | rfl
  · exact (show Al RD (fun r => (pNum r).bind fun q0 => (pB8 q0.2).bind fun q1 => some ((⟨(1 : Int),(0 : Int),(0 : Int),(0 : Int),(0 : Int),q0.1,(0 : Int),(0 : Int),q1.1⟩ : T_Code),q1.2)) from (Al.bind (Q := fun v0 => fun r => (pB8 r).bind fun q1 => some ((⟨(1 : Int),(0 : Int),(0 : Int),(0 : Int),(0 : Int),v0,(0 : Int),(0 : Int),q1.1⟩ : T_Code),q1.2)) pNum_al fun v0 h0 => (Al.bind (Q := fun v1 => fun r => some ((⟨(1 : Int),(0 : Int),(0 : Int),(0 : Int),(0 : Int),v0,(0 : Int),(0 : Int),v1⟩ : T_Code),r)) pB8_al fun v1 h1 => (al_ret ⟨h1,isk 1 rfl,is0,is0,is0,is0⟩))))
  · exact (show Al RD (fun r => (pNum r).bind fun q0 => (pNum q0.2).bind fun q1 => some ((⟨(2 : Int),(0 : Int),(0 : Int),(0 : Int),(0 : Int),q0.1,q1.1,(0 : Int),(0 : Int)⟩ : T_Code),q1.2)) from (Al.bind (Q := fun v0 => fun r => (pNum r).bind fun q1 => some ((⟨(2 : Int),(0 : Int),(0 : Int),(0 : Int),(0 : Int),v0,q1.1,(0 : Int),(0 : Int)⟩ : T_Code),q1.2)) pNum_al fun v0 h0 => (Al.bind (Q := fun v1 => fun r => some ((⟨(2 : Int),(0 : Int),(0 : Int),(0 : Int),(0 : Int),v0,v1,(0 : Int),(0 : Int)⟩ : T_Code),r)) pNum_al fun v1 h1 => (al_ret ⟨is64_0,isk 2 rfl,is0,is0,is0,is0⟩))))
  · exact (show Al RD (fun r => (pByte r).bind fun q0 => (pByte q0.2).bind fun q1 => (pNum q1.2).bind fun q2 => (pNum q2.2).bind fun q3 => (pNum q3.2).bind fun q4 => some ((⟨(3 : Int),q0.1,q1.1,(0 : Int),(0 : Int),q2.1,q3.1,q4.1,(0 : Int)⟩ : T_Code),q4.2)) from (Al.bind (Q := fun v0 => fun r => (pByte r).bind fun q1 => (pNum q1.2).bind fun q2 => (pNum q2.2).bind fun q3 => (pNum q3.2).bind fun q4 => some ((⟨(3 : Int),v0,q1.1,(0 : Int),(0 : Int),q2.1,q3.1,q4.1,(0 : Int)⟩ : T_Code),q4.2)) pByte_al fun v0 h0 => (Al.bind (Q := fun v1 => fun r => (pNum r).bind fun q2 => (pNum q2.2).bind fun q3 => (pNum q3.2).bind fun q4 => some ((⟨(3 : Int),v0,v1,(0 : Int),(0 : Int),q2.1,q3.1,q4.1,(0 : Int)⟩ : T_Code),q4.2)) pByte_al fun v1 h1 => (Al.bind (Q := fun v2 => fun r => (pNum r).bind fun q3 => (pNum q3.2).bind fun q4 => some ((⟨(3 : Int),v0,v1,(0 : Int),(0 : Int),v2,q3.1,q4.1,(0 : Int)⟩ : T_Code),q4.2)) pNum_al fun v2 h2 => (Al.bind (Q := fun v3 => fun r => (pNum r).bind fun q4 => some ((⟨(3 : Int),v0,v1,(0 : Int),(0 : Int),v2,v3,q4.1,(0 : Int)⟩ : T_Code),q4.2)) pNum_al fun v3 h3 => (Al.bind (Q := fun v4 => fun r => some ((⟨(3 : Int),v0,v1,(0 : Int),(0 : Int),v2,v3,v4,(0 : Int)⟩ : T_Code),r)) pNum_al fun v4 h4 => (al_ret ⟨is64_0,isk 3 rfl,h0,h1,is0,is0⟩)))))))
  · exact (show Al RD (fun r => (pByte r).bind fun q0 => (pByte q0.2).bind fun q1 => (pNum q1.2).bind fun q2 => (pNum q2.2).bind fun q3 => some ((⟨(4 : Int),(0 : Int),q0.1,q1.1,(0 : Int),q2.1,q3.1,(0 : Int),(0 : Int)⟩ : T_Code),q3.2)) from (Al.bind (Q := fun v0 => fun r => (pByte r).bind fun q1 => (pNum q1.2).bind fun q2 => (pNum q2.2).bind fun q3 => some ((⟨(4 : Int),(0 : Int),v0,q1.1,(0 : Int),q2.1,q3.1,(0 : Int),(0 : Int)⟩ : T_Code),q3.2)) pByte_al fun v0 h0 => (Al.bind (Q := fun v1 => fun r => (pNum r).bind fun q2 => (pNum q2.2).bind fun q3 => some ((⟨(4 : Int),(0 : Int),v0,v1,(0 : Int),q2.1,q3.1,(0 : Int),(0 : Int)⟩ : T_Code),q3.2)) pByte_al fun v1 h1 => (Al.bind (Q := fun v2 => fun r => (pNum r).bind fun q3 => some ((⟨(4 : Int),(0 : Int),v0,v1,(0 : Int),v2,q3.1,(0 : Int),(0 : Int)⟩ : T_Code),q3.2)) pNum_al fun v2 h2 => (Al.bind (Q := fun v3 => fun r => some ((⟨(4 : Int),(0 : Int),v0,v1,(0 : Int),v2,v3,(0 : Int),(0 : Int)⟩ : T_Code),r)) pNum_al fun v3 h3 => (al_ret ⟨is64_0,isk 4 rfl,is0,h0,h1,is0⟩))))))
  · exact (show Al RD (fun r => (pNum r).bind fun q0 => (pNum q0.2).bind fun q1 => some ((⟨(5 : Int),(0 : Int),(0 : Int),(0 : Int),(0 : Int),q0.1,q1.1,(0 : Int),(0 : Int)⟩ : T_Code),q1.2)) from (Al.bind (Q := fun v0 => fun r => (pNum r).bind fun q1 => some ((⟨(5 : Int),(0 : Int),(0 : Int),(0 : Int),(0 : Int),v0,q1.1,(0 : Int),(0 : Int)⟩ : T_Code),q1.2)) pNum_al fun v0 h0 => (Al.bind (Q := fun v1 => fun r => some ((⟨(5 : Int),(0 : Int),(0 : Int),(0 : Int),(0 : Int),v0,v1,(0 : Int),(0 : Int)⟩ : T_Code),r)) pNum_al fun v1 h1 => (al_ret ⟨is64_0,isk 5 rfl,is0,is0,is0,is0⟩))))
  · exact (show Al RD (fun r => (pNum r).bind fun q0 => (pNum q0.2).bind fun q1 => some ((⟨(6 : Int),(0 : Int),(0 : Int),(0 : Int),(0 : Int),q0.1,q1.1,(0 : Int),(0 : Int)⟩ : T_Code),q1.2)) from (Al.bind (Q := fun v0 => fun r => (pNum r).bind fun q1 => some ((⟨(6 : Int),(0 : Int),(0 : Int),(0 : Int),(0 : Int),v0,q1.1,(0 : Int),(0 : Int)⟩ : T_Code),q1.2)) pNum_al fun v0 h0 => (Al.bind (Q := fun v1 => fun r => some ((⟨(6 : Int),(0 : Int),(0 : Int),(0 : Int),(0 : Int),v0,v1,(0 : Int),(0 : Int)⟩ : T_Code),r)) pNum_al fun v1 h1 => (al_ret ⟨is64_0,isk 6 rfl,is0,is0,is0,is0⟩))))
  · exact (show Al RD (fun r => (pNum r).bind fun q0 => (pNum q0.2).bind fun q1 => (pNum q1.2).bind fun q2 => (pNum q2.2).bind fun q3 => some ((⟨(7 : Int),(0 : Int),(0 : Int),(0 : Int),(0 : Int),q0.1,q1.1,q2.1,(IntKind.u64.wrap q3.1)⟩ : T_Code),q3.2)) from (Al.bind (Q := fun v0 => fun r => (pNum r).bind fun q1 => (pNum q1.2).bind fun q2 => (pNum q2.2).bind fun q3 => some ((⟨(7 : Int),(0 : Int),(0 : Int),(0 : Int),(0 : Int),v0,q1.1,q2.1,(IntKind.u64.wrap q3.1)⟩ : T_Code),q3.2)) pNum_al fun v0 h0 => (Al.bind (Q := fun v1 => fun r => (pNum r).bind fun q2 => (pNum q2.2).bind fun q3 => some ((⟨(7 : Int),(0 : Int),(0 : Int),(0 : Int),(0 : Int),v0,v1,q2.1,(IntKind.u64.wrap q3.1)⟩ : T_Code),q3.2)) pNum_al fun v1 h1 => (Al.bind (Q := fun v2 => fun r => (pNum r).bind fun q3 => some ((⟨(7 : Int),(0 : Int),(0 : Int),(0 : Int),(0 : Int),v0,v1,v2,(IntKind.u64.wrap q3.1)⟩ : T_Code),q3.2)) pNum_al fun v2 h2 => (Al.bind (Q := fun v3 => fun r => some ((⟨(7 : Int),(0 : Int),(0 : Int),(0 : Int),(0 : Int),v0,v1,v2,(IntKind.u64.wrap v3)⟩ : T_Code),r)) pNum_al fun v3 h3 => (al_ret ⟨(is64_w _),isk 7 rfl,is0,is0,is0,is0⟩))))))
  · exact (show Al RD (fun r => (pNum r).bind fun q0 => (pNum q0.2).bind fun q1 => (pNum q1.2).bind fun q2 => (pNum q2.2).bind fun q3 => some ((⟨(8 : Int),(0 : Int),(0 : Int),(0 : Int),(0 : Int),q0.1,q1.1,q2.1,(IntKind.u64.wrap q3.1)⟩ : T_Code),q3.2)) from (Al.bind (Q := fun v0 => fun r => (pNum r).bind fun q1 => (pNum q1.2).bind fun q2 => (pNum q2.2).bind fun q3 => some ((⟨(8 : Int),(0 : Int),(0 : Int),(0 : Int),(0 : Int),v0,q1.1,q2.1,(IntKind.u64.wrap q3.1)⟩ : T_Code),q3.2)) pNum_al fun v0 h0 => (Al.bind (Q := fun v1 => fun r => (pNum r).bind fun q2 => (pNum q2.2).bind fun q3 => some ((⟨(8 : Int),(0 : Int),(0 : Int),(0 : Int),(0 : Int),v0,v1,q2.1,(IntKind.u64.wrap q3.1)⟩ : T_Code),q3.2)) pNum_al fun v1 h1 => (Al.bind (Q := fun v2 => fun r => (pNum r).bind fun q3 => some ((⟨(8 : Int),(0 : Int),(0 : Int),(0 : Int),(0 : Int),v0,v1,v2,(IntKind.u64.wrap q3.1)⟩ : T_Code),q3.2)) pNum_al fun v2 h2 => (Al.bind (Q := fun v3 => fun r => some ((⟨(8 : Int),(0 : Int),(0 : Int),(0 : Int),(0 : Int),v0,v1,v2,(IntKind.u64.wrap v3)⟩ : T_Code),r)) pNum_al fun v3 h3 => (al_ret ⟨(is64_w _),isk 8 rfl,is0,is0,is0,is0⟩))))))
  · exact (show Al RD (fun r => (pNum r).bind fun q0 => (pNum q0.2).bind fun q1 => some ((⟨(9 : Int),(0 : Int),(0 : Int),(0 : Int),(0 : Int),(0 : Int),(0 : Int),q0.1,(IntKind.u64.wrap q1.1)⟩ : T_Code),q1.2)) from (Al.bind (Q := fun v0 => fun r => (pNum r).bind fun q1 => some ((⟨(9 : Int),(0 : Int),(0 : Int),(0 : Int),(0 : Int),(0 : Int),(0 : Int),v0,(IntKind.u64.wrap q1.1)⟩ : T_Code),q1.2)) pNum_al fun v0 h0 => (Al.bind (Q := fun v1 => fun r => some ((⟨(9 : Int),(0 : Int),(0 : Int),(0 : Int),(0 : Int),(0 : Int),(0 : Int),v0,(IntKind.u64.wrap v1)⟩ : T_Code),r)) pNum_al fun v1 h1 => (al_ret ⟨(is64_w _),isk 9 rfl,is0,is0,is0,is0⟩))))
  · exact (show Al RD (fun r => (pNum r).bind fun q0 => (pNum q0.2).bind fun q1 => some ((⟨(10 : Int),(0 : Int),(0 : Int),(0 : Int),(0 : Int),q0.1,q1.1,(0 : Int),(0 : Int)⟩ : T_Code),q1.2)) from (Al.bind (Q := fun v0 => fun r => (pNum r).bind fun q1 => some ((⟨(10 : Int),(0 : Int),(0 : Int),(0 : Int),(0 : Int),v0,q1.1,(0 : Int),(0 : Int)⟩ : T_Code),q1.2)) pNum_al fun v0 h0 => (Al.bind (Q := fun v1 => fun r => some ((⟨(10 : Int),(0 : Int),(0 : Int),(0 : Int),(0 : Int),v0,v1,(0 : Int),(0 : Int)⟩ : T_Code),r)) pNum_al fun v1 h1 => (al_ret ⟨is64_0,isk 10 rfl,is0,is0,is0,is0⟩))))
  · exact (show Al RD (fun r => (pNum r).bind fun q0 => (pNum q0.2).bind fun q1 => some ((⟨(11 : Int),(0 : Int),(0 : Int),(0 : Int),(0 : Int),q0.1,q1.1,(0 : Int),(0 : Int)⟩ : T_Code),q1.2)) from (Al.bind (Q := fun v0 => fun r => (pNum r).bind fun q1 => some ((⟨(11 : Int),(0 : Int),(0 : Int),(0 : Int),(0 : Int),v0,q1.1,(0 : Int),(0 : Int)⟩ : T_Code),q1.2)) pNum_al fun v0 h0 => (Al.bind (Q := fun v1 => fun r => some ((⟨(11 : Int),(0 : Int),(0 : Int),(0 : Int),(0 : Int),v0,v1,(0 : Int),(0 : Int)⟩ : T_Code),r)) pNum_al fun v1 h1 => (al_ret ⟨is64_0,isk 11 rfl,is0,is0,is0,is0⟩))))
  · exact (show Al RD (fun r => (pNum r).bind fun q0 => some ((⟨(12 : Int),(0 : Int),(0 : Int),(0 : Int),(0 : Int),q0.1,(0 : Int),(0 : Int),(0 : Int)⟩ : T_Code),q0.2)) from (Al.bind (Q := fun v0 => fun r => some ((⟨(12 : Int),(0 : Int),(0 : Int),(0 : Int),(0 : Int),v0,(0 : Int),(0 : Int),(0 : Int)⟩ : T_Code),r)) pNum_al fun v0 h0 => (al_ret ⟨is64_0,isk 12 rfl,is0,is0,is0,is0⟩)))
  · exact (show Al RD (fun r => (pByte r).bind fun q0 => (pNum q0.2).bind fun q1 => some ((⟨(13 : Int),(0 : Int),q0.1,(0 : Int),(0 : Int),q1.1,(0 : Int),(0 : Int),(0 : Int)⟩ : T_Code),q1.2)) from (Al.bind (Q := fun v0 => fun r => (pNum r).bind fun q1 => some ((⟨(13 : Int),(0 : Int),v0,(0 : Int),(0 : Int),q1.1,(0 : Int),(0 : Int),(0 : Int)⟩ : T_Code),q1.2)) pByte_al fun v0 h0 => (Al.bind (Q := fun v1 => fun r => some ((⟨(13 : Int),(0 : Int),v0,(0 : Int),(0 : Int),v1,(0 : Int),(0 : Int),(0 : Int)⟩ : T_Code),r)) pNum_al fun v1 h1 => (al_ret ⟨is64_0,isk 13 rfl,is0,h0,is0,is0⟩))))
  · exact (show Al RD (fun r => (pNum r).bind fun q0 => some ((⟨(14 : Int),(0 : Int),(0 : Int),(0 : Int),(0 : Int),q0.1,(0 : Int),(0 : Int),(0 : Int)⟩ : T_Code),q0.2)) from (Al.bind (Q := fun v0 => fun r => some ((⟨(14 : Int),(0 : Int),(0 : Int),(0 : Int),(0 : Int),v0,(0 : Int),(0 : Int),(0 : Int)⟩ : T_Code),r)) pNum_al fun v0 h0 => (al_ret ⟨is64_0,isk 14 rfl,is0,is0,is0,is0⟩)))
  · exact (show Al RD (fun r => (pNum r).bind fun q0 => (pNum q0.2).bind fun q1 => (pNum q1.2).bind fun q2 => some ((⟨(15 : Int),(0 : Int),(0 : Int),(0 : Int),(0 : Int),q0.1,q1.1,q2.1,(0 : Int)⟩ : T_Code),q2.2)) from (Al.bind (Q := fun v0 => fun r => (pNum r).bind fun q1 => (pNum q1.2).bind fun q2 => some ((⟨(15 : Int),(0 : Int),(0 : Int),(0 : Int),(0 : Int),v0,q1.1,q2.1,(0 : Int)⟩ : T_Code),q2.2)) pNum_al fun v0 h0 => (Al.bind (Q := fun v1 => fun r => (pNum r).bind fun q2 => some ((⟨(15 : Int),(0 : Int),(0 : Int),(0 : Int),(0 : Int),v0,v1,q2.1,(0 : Int)⟩ : T_Code),q2.2)) pNum_al fun v1 h1 => (Al.bind (Q := fun v2 => fun r => some ((⟨(15 : Int),(0 : Int),(0 : Int),(0 : Int),(0 : Int),v0,v1,v2,(0 : Int)⟩ : T_Code),r)) pNum_al fun v2 h2 => (al_ret ⟨is64_0,isk 15 rfl,is0,is0,is0,is0⟩)))))
  · exact (show Al RD (fun r => (pNum r).bind fun q0 => some ((⟨(16 : Int),(0 : Int),(0 : Int),(0 : Int),(0 : Int),q0.1,(0 : Int),(0 : Int),(0 : Int)⟩ : T_Code),q0.2)) from (Al.bind (Q := fun v0 => fun r => some ((⟨(16 : Int),(0 : Int),(0 : Int),(0 : Int),(0 : Int),v0,(0 : Int),(0 : Int),(0 : Int)⟩ : T_Code),r)) pNum_al fun v0 h0 => (al_ret ⟨is64_0,isk 16 rfl,is0,is0,is0,is0⟩)))
  · exact (show Al RD (fun r => (pByte r).bind fun q0 => some ((⟨(17 : Int),(0 : Int),(0 : Int),(0 : Int),q0.1,(0 : Int),(0 : Int),(0 : Int),(0 : Int)⟩ : T_Code),q0.2)) from (Al.bind (Q := fun v0 => fun r => some ((⟨(17 : Int),(0 : Int),(0 : Int),(0 : Int),v0,(0 : Int),(0 : Int),(0 : Int),(0 : Int)⟩ : T_Code),r)) pByte_al fun v0 h0 => (al_ret ⟨is64_0,isk 17 rfl,is0,is0,is0,h0⟩)))
theorem pCode_al : Al RD pCode := Al.bind pByte_al fun k _ => pK_al k
structure RV (u : T_Unit) : Prop where
  n : u.fName.length ≤ 10000000
  p : BL u.fParams ∧ u.fParams.length ≤ 10000000
  r : isB u.fResult
  c : (∀ x ∈ u.fCode,RD x) ∧ u.fCode.length ≤ 10000000
theorem pUnit_al : Al RV pUnit := by
  refine Al.bind (P := pNum) (Q := fun n r => (pTake n.toNat r).bind fun nm => (pNum nm.2).bind fun p => (pTake p.1.toNat p.2).bind fun ps => (pByte ps.2).bind fun rs => (pNum rs.2).bind fun f => (pNum f.2).bind fun m =>
    (pRep pCode m.1.toNat m.2).bind fun cs => some ((⟨nm.1.map toByte,ps.1,rs.1,f.1,cs.1⟩ : T_Unit),cs.2)) pNum_al fun n _ => ?_
  refine (pTake_al n.toNat).bind (Q := fun nm r => (pNum r).bind fun p => (pTake p.1.toNat p.2).bind fun ps => (pByte ps.2).bind fun rs => (pNum rs.2).bind fun f => (pNum f.2).bind fun m =>
    (pRep pCode m.1.toNat m.2).bind fun cs => some ((⟨nm.map toByte,ps.1,rs.1,f.1,cs.1⟩ : T_Unit),cs.2)) fun nm hnm => ?_
  refine pNum_al.bind (Q := fun p r => (pTake p.toNat r).bind fun ps => (pByte ps.2).bind fun rs => (pNum rs.2).bind fun f => (pNum f.2).bind fun m =>
    (pRep pCode m.1.toNat m.2).bind fun cs => some ((⟨nm.map toByte,ps.1,rs.1,f.1,cs.1⟩ : T_Unit),cs.2)) fun p _ => ?_
  refine (pTake_al p.toNat).bind (Q := fun ps r => (pByte r).bind fun rs => (pNum rs.2).bind fun f => (pNum f.2).bind fun m =>
    (pRep pCode m.1.toNat m.2).bind fun cs => some ((⟨nm.map toByte,ps,rs.1,f.1,cs.1⟩ : T_Unit),cs.2)) fun ps hps => ?_
  refine pByte_al.bind (Q := fun rs r => (pNum r).bind fun f => (pNum f.2).bind fun m =>
    (pRep pCode m.1.toNat m.2).bind fun cs => some ((⟨nm.map toByte,ps,rs,f.1,cs.1⟩ : T_Unit),cs.2)) fun rs hrs => ?_
  refine pNum_al.bind (Q := fun f r => (pNum r).bind fun m =>
    (pRep pCode m.1.toNat m.2).bind fun cs => some ((⟨nm.map toByte,ps,rs,f,cs.1⟩ : T_Unit),cs.2)) fun f _ => ?_
  refine pNum_al.bind (Q := fun m r => (pRep pCode m.toNat r).bind fun cs => some ((⟨nm.map toByte,ps,rs,f,cs.1⟩ : T_Unit),cs.2)) fun m _ => ?_
  exact (pRep_al pCode_suf pCode_al m.toNat).bind (Q := fun cs r => some ((⟨nm.map toByte,ps,rs,f,cs⟩ : T_Unit),r)) fun cs hcs => al_ret ⟨by simpa using hnm.2,hps,hrs,hcs⟩
theorem pUnits_al : Al (fun l => (∀ u ∈ l,RV u) ∧ l.length ≤ 10000000) pUnits := by
  intro r x t hb hl h;unfold pUnits at h;exact (Al.bind (Q := fun n r => pRep pUnit n.toNat r) pNum_al fun n _ => pRep_al pUnit_suf pUnit_al n.toNat) r x t hb hl h
theorem RV.rk {u : T_Unit} (h : RV u) : RK u := ⟨h.n,h.p.2,h.c.2,fun x hx => (h.c.1 x hx).b⟩
theorem encC_bl2 {x : T_Code} (g : Gd x) (r : RD x) : BL (encC x) := by
  have ha : BL (grp x.fA.toNat) := grp_bl (by have := g.a; omega);have hb : BL (grp x.fB.toNat) := grp_bl (by have := g.b; omega);have hc : BL (grp x.fC.toNat) := grp_bl (by have := g.c; omega);have h8 := b8_bl x.fBits.toNat;have hr : 7 ≤ x.fKind → x.fKind ≤ 9 → BL (grp x.fBits.toNat) := fun h1 h2 => grp_bl (by have := g.row h1 h2; omega)
  have k1 := g.k;have go : ∀ (k : Int) (a b : List Int),(x.fKind = k → BL a) → (x.fKind ≠ k → BL b) → BL (if x.fKind = k then a else b) := by
    intro k a b h1 h2
    by_cases h : x.fKind = k
    · rw [if_pos h]; exact h1 h
    · rw [if_neg h]; exact h2 h
  unfold encC;refine BL.cons r.k ?_;refine go _ _ _ (fun _ => ha.app h8) fun _ => ?_
  refine go _ _ _ (fun _ => ha.app hb) fun _ => ?_
  refine go _ _ _ (fun _ => BL.cons r.o (BL.cons r.t (ha.app (hb.app hc)))) fun _ => ?_
  refine go _ _ _ (fun _ => BL.cons r.t (BL.cons r.u (ha.app hb))) fun _ => ?_
  refine go _ _ _ (fun _ => ha.app hb) fun _ => ?_
  refine go _ _ _ (fun _ => ha.app hb) fun _ => ?_
  refine go _ _ _ (fun h => ha.app (hb.app (hc.app (hr (by omega) (by omega))))) fun _ => ?_
  refine go _ _ _ (fun h => ha.app (hb.app (hc.app (hr (by omega) (by omega))))) fun _ => ?_
  refine go _ _ _ (fun h => hc.app (hr (by omega) (by omega))) fun _ => ?_
  refine go _ _ _ (fun _ => ha.app hb) fun _ => ?_
  refine go _ _ _ (fun _ => ha.app hb) fun _ => ?_
  refine go _ _ _ (fun _ => ha) fun _ => ?_
  refine go _ _ _ (fun _ => BL.cons r.t ha) fun _ => ?_
  refine go _ _ _ (fun _ => ha) fun _ => ?_
  refine go _ _ _ (fun _ => ha.app (hb.app hc)) fun _ => ?_
  exact go _ _ _ (fun _ => ha) fun _ => BL.cons r.r BL.nil
theorem encU_bl2 {u : T_Unit} (g : GR u) (r : RV u) : BL (encU u) := by
  unfold encU;refine (grp_bl g.g.n).app (BL.app ?_ ((grp_bl g.g.p).app (r.p.1.app ((BL.cons r.r BL.nil).app ((grp_bl (by have := g.g.f; omega)).app ((grp_bl g.g.c).app (BL.flat fun x hx => encC_bl2 (g.g.g x hx) (r.c.1 x hx))))))));intro c hc;obtain ⟨b,_,rfl⟩ := List.mem_map.mp hc;have := b.toNat_lt
  omega
def getB (b : List Int) : List T_Unit × Int := match pUnits b with
  | none => ([],4)
  | some q => match F20 q.1 with
    | some (e,_) => if e = 0 ∧ putL q.1 = b then (q.1,0) else ([],4)
    | none => ([],4)
theorem get_b {b : List Int} (hb : BL b) (hl : b.length ≤ 10000000) : F14 b = some (getB b) := by
  unfold F14 getB;rw [F39_is hb hl];cases hu : pUnits b with
  | none => rfl
  | some q =>
    obtain ⟨l,t⟩ := q;obtain ⟨⟨v1,v2⟩,_,_⟩ := pUnits_al b l t hb hl hu;obtain ⟨e,j,k1,k2,k4⟩ := put_b l (fun u hu => (v1 u hu).rk);simp only [Option.bind_some,Bool.not_true,Bool.false_eq_true,if_false];rw [k2,k1];simp only [Option.bind_some]
    by_cases he : e = 0
    · subst he;obtain ⟨h64,hg⟩ := k4 rfl;have hbl : BL (putL l) := by
        unfold putL;exact (grp_bl (by omega)).app (BL.flat fun u hu => encU_bl2 (hg u hu) (v1 u hu))
      rw [if_pos rfl,if_neg (by simp),F40_is hbl hb];simp only [Option.bind_some]
      by_cases hp : putL l = b
      · simp [hp]
      · simp [hp]
    · rw [if_pos (by simpa using he),if_neg (fun h => he h.1)]
theorem pick_spec (x : Int) {n : Nat} (hn : 0 < n) (hn2 : n < 4611686018427387904) : ∃ p : Nat,F23 x (n : Int) = some (p : Int) ∧ p < n := by
  unfold F23 F23_j1;rw [decide_eq_false (show ¬ (n : Int) < 1 by omega),if_neg (by simp)];have h1 := Int.tmod_lt_of_pos x (show (0 : Int) < (n : Int) by omega);have h2 : -(n : Int) < Int.tmod x (n : Int) := Int.lt_tmod_of_pos x (show (0 : Int) < (n : Int) by omega);have hne : ((n : Int) != 0) = true := by simp; omega
  rw [hne];simp only [when,if_true,Option.bind_some]
  by_cases h : Int.tmod x (n : Int) < 0
  · rw [decide_eq_true h,if_pos rfl,wrap64_in (by omega) (by omega)];obtain ⟨p,hp⟩ := Int.eq_ofNat_of_zero_le (show 0 ≤ Int.tmod x (n : Int) + (n : Int) by omega);exact ⟨p,by rw [hp],by omega⟩
  · rw [decide_eq_false h,if_neg (by simp)];obtain ⟨p,hp⟩ := Int.eq_ofNat_of_zero_le (show 0 ≤ Int.tmod x (n : Int) by omega);exact ⟨p,by rw [hp],by omega⟩
structure SzB (u : T_Unit) : Prop where
  z : SzU u
  p : BL u.fParams
  r : isB u.fResult
  x : ∀ x ∈ u.fCode,RD x
theorem back_rest {b : List Int} (hb : BL b) (hl : b.length ≤ 3000) : F6_j1 b = some true := by
  unfold F6_j1;rw [get_b hb (by omega),Option.bind_some];unfold getB;cases hu : pUnits b with
  | none => rfl
  | some q =>
    obtain ⟨l,t⟩ := q;obtain ⟨⟨v1,v2⟩,_,_⟩ := pUnits_al b l t hb (by omega) hu;obtain ⟨e,j,k1,k2,k4⟩ := put_b l (fun u hu => (v1 u hu).rk);simp only [k1]
    by_cases he : e = 0 ∧ putL l = b
    · obtain ⟨rfl,hp⟩ := he;rw [if_pos (show (0 : Int) = 0 ∧ putL l = b from ⟨rfl,hp⟩)]
      simp only
      rw [if_neg (by simp),k2];simp only [Option.bind_some,if_true,beq_self_eq_true];rw [hp,F16_same b (by omega)]; rfl
    · rw [if_neg he]; rfl
theorem back (l : List T_Unit) (b : List Int) (cut : Int) (more : List Int) (hl : Sz l) (hu : ∀ u ∈ l,SzB u) (hb : BL b) (hm : BL more) : F6 l b cut more = some true := by
  obtain ⟨g,hg⟩ := great_some l hl;unfold F6;rw [awake5,Option.bind_some,hg];simp only [Option.bind_some,Bool.not_true,Bool.false_eq_true,if_false];cases g with
  | true => rfl
  | false =>
    simp only [Bool.false_eq_true,if_false]
    by_cases h3 : ((List.length b : Nat) : Int) > 3000
    · rw [decide_eq_true h3]; rfl
    rw [decide_eq_false h3,if_neg (by simp)]
    by_cases h4 : ((List.length more : Nat) : Int) > 1000
    · rw [decide_eq_true h4]; rfl
    rw [decide_eq_false h4,if_neg (by simp)];obtain ⟨g1,g2⟩ := great_no l hl (fun u h => (hu u h).z) hg;have hrk : ∀ u ∈ l,RK u := fun u h => ⟨by have := (g2 u h).2.2; omega,by have := (g2 u h).2.1; omega,by have := (g2 u h).1; omega,fun x hx => ((hu u h).x x hx).b⟩
    obtain ⟨e,j,k1,k2,k4⟩ := put_b l hrk;have hbl : b.length ≤ 3000 := by omega
    have hml : more.length ≤ 1000 := by omega
    rw [k2,k1];simp only [Option.bind_some,bne_self_eq_false,Bool.false_eq_true,if_false]
    by_cases he : e = 0
    case neg =>
      rw [if_neg (by simpa using he)]; exact back_rest hb hbl
    subst he;obtain ⟨h64,hgr⟩ := k4 rfl;have hrv : ∀ u ∈ l,RV u := fun u h => ⟨(hrk u h).n,⟨(hu u h).p,(hrk u h).p⟩,(hu u h).r,(hu u h).x,(hrk u h).c⟩
    have hcb : BL (putL l) := by
      unfold putL;exact (grp_bl (by omega)).app (BL.flat fun u hu => encU_bl2 (hgr u hu) (hrv u hu))
    have hg9 : ∀ n,(grp n).length ≤ 9 := fun n => grpF_len 8 n
    have hcl : (putL l).length ≤ 9000000 := by
      have h2 : (l.flatMap encU).length ≤ l.length * 50000 := by
        have hle : ∀ u ∈ l,(encU u).length ≤ 50000 := by
          intro u hu';have h1 := hg9 u.fName.length;have h2 := hg9 u.fParams.length;have h3 := hg9 u.fFrame.toNat;have h4 := hg9 u.fCode.length;have h5 := flat_le encC 64 encC_len u.fCode;have h6 := g2 u hu';simp only [encU,List.length_append,List.length_map,List.length_cons,List.length_nil]
          omega
        clear hu hg g1 g2 hrk k1 k2 k4 h64 hgr hrv hcb hl
        induction l with
        | nil => simp
        | cons u l ih =>
          have a := hle u (by simp);have b := ih (fun v hv => hle v (by simp [hv]));rw [List.flatMap_cons,List.length_append,List.length_cons,Nat.succ_mul]; omega
      have h1 := hg9 l.length;simp only [putL,List.length_append]
      omega
    have hpos : 0 < (putL l).length := by
      have : 0 < (grp l.length).length := by
        show 0 < (grpF 8 l.length).length;unfold grpF
        split <;> simp
      simp only [putL,List.length_append]
      omega
    have e0 : pUnits (putL l) = some (l,[]) := by
      have := units_rt h64 hgr []
      rwa [List.append_nil] at this
    have b0 : getB (putL l) = (l,0) := by
      unfold getB;rw [e0];simp only [k1];rw [if_pos ⟨trivial,trivial⟩]
    obtain ⟨p,p1,p2⟩ := pick_spec cut hpos (by omega);have p3 : part (putL l) 0 (p : Int) = some ((putL l).take p) := by
      have := part_nat (l := putL l) (a := 0) (b := p) (by omega) (by omega)
      simpa using this
    have b1 : getB ((putL l).take p) = ([],4) := by
      unfold getB;cases hx : pUnits ((putL l).take p) with
      | none => rfl
      | some q =>
        obtain ⟨l',t'⟩ := q;have := pUnits_exp _ _ _ ((putL l).drop p) hx;rw [List.take_append_drop,e0] at this;simp only [Option.some.injEq,Prod.mk.injEq] at this;have hh := this.2;have hd : ((putL l).drop p).length = 0 := by
          have := congrArg List.length hh;simp only [List.length_nil,List.length_append] at this
          omega
        rw [List.length_drop] at hd
        omega
    have b2 : getB (putL l ++ more) = if more = [] then (l,0) else ([],4) := by
      unfold getB;rw [units_rt h64 hgr more];simp only [k1]
      by_cases hx : more = []
      · rw [if_pos ⟨trivial,by rw [hx,List.append_nil]⟩,if_pos hx]
      · rw [if_neg (fun h => hx (by simpa using h.2)),if_neg hx]
    have c1 : F24 (putL l) = some (putL l) := by
      unfold F24;rw [more1 (by rw [List.length_nil,Nat.zero_add]; exact putL_len2 h64 hgr)]; rfl
    have c2 : Go.Eng.more 1 (putL l) more = some (putL l ++ more) := more1 (by show _ ≤ 140737488355328; omega);have s17 : F17 l l = some true := F17_same l (by omega) (fun u h => ⟨by have := (hrk u h).p; omega,by have := (hrk u h).c; omega⟩);simp only [if_true,beq_self_eq_true];rw [get_b hcb (by omega),b0,Option.bind_some,p1,Option.bind_some,p3,Option.bind_some,get_b (hcb.take p) (by rw [List.length_take]; omega),b1,Option.bind_some,c1,Option.bind_some,c2,Option.bind_some,get_b (hcb.app hm) (by rw [List.length_append]; omega),b2,Option.bind_some]
    simp only
    rw [if_neg (by simp),s17,Option.bind_some,if_pos rfl,if_neg (by simp)]
    by_cases hx : more = []
    · subst hx;rw [if_pos rfl];exact back_rest hb hbl
    · rw [if_neg hx,if_neg]
      · exact back_rest hb hbl
      · have : ¬ ((List.length more : Nat) : Int) = 0 := by
          have := List.length_pos_iff.mpr hx
          omega
        have e : (((List.length more : Nat) : Int) == (0 : Int)) = false := beq_eq_false_iff_ne.mpr this;simp only [e]
        decide
end Go.Eng.Cop
