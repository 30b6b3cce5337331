/- Functions of this seat, run on unknown values by the rules of the small machine (no condition beyond those stated). -/
import Derived.Test.YthpbodnnbjdnlaaDoorEngLUp
namespace Go.Eng
open Go
set_option linter.unusedSectionVars false
set_option linter.unusedVariables false
set_option linter.unusedSimpArgs false
variable [Glob]
theorem eqb2_sound {f : V → V → Bool} : ∀ {l r : List V},(∀ a ∈ l,∀ b,f a b = true → a = b) → eqb2 f l r = true → l = r
  | [],[],_,_ => rfl
  | a :: l,b :: r,hf,h => by
    simp only [eqb2,Bool.and_eq_true] at h;rw [hf a (by simp) b h.1,eqb2_sound (fun x hx => hf x (by simp [hx])) h.2]
  | [],_ :: _,_,h => by simp [eqb2] at h
  | _ :: _,[],_,h => by simp [eqb2] at h
theorem V.eqb_sound : ∀ (n : Nat) {a b : V},V.eqb n a b = true → a = b
  | 0,_,_,h => by simp [V.eqb] at h
  | n + 1,a,b,h => by
    have rcc : ∀ l r : List V,eqb2 (V.eqb n) l r = true → l = r := fun l r h => eqb2_sound (fun a _ b hb => V.eqb_sound n hb) h
    unfold V.eqb at h
    split at h
    all_goals first
      | rfl
      | (cases h; done)
      | skip
    all_goals try simp only [Bool.and_eq_true,beq_iff_eq] at h
    · rw [h]
    · rw [h.1,h.2]
    · rename_i s s'
      have : s = s' := by cases s; cases s'; simp at h; simp [h]
      rw [this]
    · rw [h.1.1,h.1.2,h.2]
    · obtain ⟨⟨⟨⟨⟨rfl,rfl⟩,rfl⟩,rfl⟩,rfl⟩,rfl⟩ := h; rfl
    · rw [h]
    · rw [V.eqb_sound n h]
    · rw [V.eqb_sound n h]
    · rw [rcc _ _ h]
    · rw [rcc _ _ h]
    · rw [rcc _ _ h]
    · obtain ⟨rfl,h⟩ := h; rw [rcc _ _ h]
theorem exOp_stay {F : FT} {o : IOp} {env : List V} {H0 H : Heap} {r : List V} (hq : o.k.quiet = true) (hs : stayOp F H0 o env H = true) (he : exOp F { o with lo := false } env H0 = some (r,H0)) : exOp F { o with lo := false } env H = some (r,H) := by
  have run : ∀ r,gdR env o.guard = true → exK F { o with lo := false } env H0 = some (r,H0) → exK F { o with lo := false } env H = some (r,H) := by
    intro r hg hr;unfold stayOp at hs;rw [hg] at hs;simp only [Bool.not_true,Bool.false_or] at hs;unfold exK at hr ⊢;simp only [hq,if_true,Bool.false_eq_true,if_false,Option.map_eq_some_iff,Prod.mk.injEq] at hr ⊢;obtain ⟨v,h1,h2,_⟩ := hr;rw [h1] at hs
    split at hs
    · rename_i a b ha hb
      cases hb;rw [V.eqb_sound _ hs] at ha;exact ⟨v,ha,h2,trivial⟩
    · cases hs
  unfold exOp at he ⊢;cases hg : o.guard with
  | none => simp only [hg] at he ⊢; exact run _ (by rw [hg]; rfl) he
  | some p =>
    obtain ⟨t,w⟩ := p;simp only [hg] at he ⊢
    split at he
    · rename_i b hb
      split at he
      · rename_i hbw; rw [if_pos hbw]; exact run _ (by rw [hg]; simp only [gdR,hb,hbw]; simp) he
      · rename_i hbw; rw [if_neg hbw]
        simp only [Option.some.injEq,Prod.mk.injEq] at he ⊢;exact ⟨he.1,trivial⟩
    · simp only [Option.some.injEq,Prod.mk.injEq] at he ⊢;exact ⟨he.1,trivial⟩
    · cases he
theorem exOps0_trace {F : FT} {H0 : Heap} : ∀ (is : List IOp) {env : List V} {H : Heap} {tr : List (List V × Heap)},exOps0 F H0 is env H = some tr →
    tr.length = is.length + 1 ∧ tr[0]? = some (env,H) ∧ ∀ (i : Nat) (o : IOp),is[i]? = some o → ∃ p q,tr[i]? = some p ∧ tr[i + 1]? = some q ∧ exOp0 F H0 o p.1 p.2 = some q
  | [],env,H,tr,h => by
    simp only [exOps0,Option.some.injEq] at h;subst h;exact ⟨rfl,rfl,fun i o h => by simp at h⟩
  | o :: r,env,H,tr,h => by
    simp only [exOps0] at h
    split at h
    · rename_i env1 H1 h1
      split at h
      · rename_i tr1 h2
        cases h;obtain ⟨e1,e2,e3⟩ := exOps0_trace r h2;refine ⟨by simp [e1],rfl,fun i p hp => ?_⟩;cases i with
        | zero => simp at hp; subst hp; exact ⟨_,_,rfl,by simpa using e2,h1⟩
        | succ i => obtain ⟨a,b,q1,q2,q3⟩ := e3 i p (by simpa using hp); exact ⟨a,b,by simpa using q1,by simpa using q2,q3⟩
      · cases h
    · cases h
def limOf (ls : List Nat) (n i : Nat) : Nat := match ls[i]? with | some k => k | none => n
theorem stays_spec {F : FT} {H0 : Heap} {hs : List Heap} : ∀ {ls : List Nat} {is : List IOp} {tr : List (List V × Heap)},stays F H0 hs ls is tr = true → ∀ (i : Nat) (o : IOp) (p : List V × Heap),is[i]? = some o → tr[i]? = some p → o.lo = true →
    ∀ (k : Nat) (h : Heap),hs[k]? = some h → (∀ n,ls[i]? = some n → k ≤ n) → stayOp F H0 o p.1 h = true
  | _,[],_,_,i,o,p,h,_,_ => by simp at h
  | _,_ :: _,[],_,i,o,p,_,h,_ => by simp at h
  | [],o :: r,q :: tr,hst,i,o',p,h1,h2,hl => by
    intro k h hk hn;simp only [stays,Bool.and_eq_true,Bool.or_eq_true,Bool.not_eq_true',List.all_eq_true] at hst;cases i with
    | zero =>
      simp at h1 h2; subst h1; subst h2
      rcases hst.1 with h | h
      · rw [hl] at h; cases h
      · exact h _ (List.mem_of_getElem? hk)
    | succ i => exact stays_spec hst.2 i o' p (by simpa using h1) (by simpa using h2) hl k h hk (fun n hn' => by simp at hn')
  | m :: ls,o :: r,q :: tr,hst,i,o',p,h1,h2,hl => by
    intro k h hk hn;simp only [stays,Bool.and_eq_true,Bool.or_eq_true,Bool.not_eq_true',List.all_eq_true] at hst;cases i with
    | zero =>
      simp at h1 h2; subst h1; subst h2
      rcases hst.1 with h | h
      · rw [hl] at h; cases h
      · have hkm := hn m rfl;refine h _ (List.mem_of_getElem? (i := k) ?_);rw [List.getElem?_take_of_lt (by omega)]; exact hk
    | succ i => exact stays_spec hst.2 i o' p (by simpa using h1) (by simpa using h2) hl k h hk (fun n hn' => hn n (by simpa using hn'))
def chkLim (ops : Array Oper) (is : List IOp) (ls : List Nat) : Bool :=
  let bs := befs ops.toList []
  allPairs is.length (fun w i => match is[w]?,is[i]? with
    | some a,some b => a.k.quiet || !b.lo || decide (w < limOf ls is.length i) || (bs.getD w 0).testBit i
    | _,_ => true)
structure Draw0Ok (ops : Array Oper) (is : List IOp) (ls : List Nat) : Prop extends DrawOk ops is where
  lo : ∀ (w i : Nat) (a b : IOp),is[w]? = some a → is[i]? = some b → a.k.quiet = false → b.lo = true → w < limOf ls is.length i ∨ Prec ops i w
theorem chkDraw0_spec {ops : Array Oper} {is : List IOp} {ls : List Nat} (h : chkDraw ops is = true) (h' : chkLim ops is ls = true) : Draw0Ok ops is ls := by
  refine ⟨chkDraw_spec h,?_⟩;intro w i a b ha hb hq hlo;have hp := befs_spec (ops := ops) ops.toList [] (fun k o hk => by simpa using hk) (fun m j hj => by simp at hj);simp only [chkLim,allPairs,List.all_eq_true,List.mem_range] at h';have := h' w (List.getElem?_eq_some_iff.mp ha).1 i (List.getElem?_eq_some_iff.mp hb).1;rw [ha,hb] at this;simp only [hq,hlo,Bool.not_true,Bool.or_false,Bool.false_or,Bool.or_eq_true,decide_eq_true_eq] at this;rcases this with h | h
  · exact .inl h
  · exact .inr (hp _ _ h)
section
variable {P : Program} {F : FT} {ops : Array Oper} {is : List IOp}
theorem draw0_sim (hF : FSim P F) {Q : Exit → Act → World → Prop} (hc : all2 (chkOp P ops) ops.toList is = true) {ls : List Nat} (hd : Draw0Ok ops is ls) {env0 envn : List V} {H0 Hn : Heap}
    {tr : List (List V × Heap)} (hex : exOps0 F H0 is env0 H0 = some tr) (hstay : stays F H0 (tr.map (·.2)) ls is tr = true) (hlast : tr.getLast? = some (envn,Hn)) {wr0 : Nat → Prop} {W0 : World} {own0' : Own} {a0 : Act} (s0 : Sim wr0 W0 own0' H0 env0 a0.tmps)
    (hQ : ∀ a' W' wr' own',Ext wr0 W0 own0' wr' W' own' → Sim wr' W' own' Hn envn a'.tmps → a'.defers = a0.defers → Q .normal a' W') :
    wpAny P .any ops Q ops.size (Array.replicate ops.size false) a0 W0 := by
  obtain ⟨r1,r2,r3⟩ := exOps0_trace is hex
  let E : Nat → List V := fun i => (tr.getD i ([],[])).1
  let Hs : Nat → Heap := fun i => (tr.getD i ([],[])).2
  have trg : ∀ (i : Nat) (p : List V × Heap),tr[i]? = some p → tr.getD i ([],[]) = p := fun i p h => by simp [List.getD,h]
  have t1 : E 0 = env0 := by show (tr.getD 0 ([],[])).1 = _; rw [trg 0 _ r2]
  have t2 : Hs 0 = H0 := by show (tr.getD 0 ([],[])).2 = _; rw [trg 0 _ r2]
  have hl0 : tr[is.length]? = some (envn,Hn) := by rw [List.getLast?_eq_getElem?,r1] at hlast; simpa using hlast
  have t3 : E is.length = envn := by show (tr.getD _ ([],[])).1 = _; rw [trg _ _ hl0]
  have t4 : Hs is.length = Hn := by show (tr.getD _ ([],[])).2 = _; rw [trg _ _ hl0]
  have t5 : ∀ (i : Nat) (o : IOp),is[i]? = some o → exOp0 F H0 o (E i) (Hs i) = some (E (i + 1),Hs (i + 1)) := by
    intro i o ho;obtain ⟨p,q,h1,h2,h3⟩ := r3 i o ho;show exOp0 F H0 o (tr.getD i ([],[])).1 (tr.getD i ([],[])).2 = some ((tr.getD (i + 1) ([],[])).1,(tr.getD (i + 1) ([],[])).2);rw [trg i p h1,trg (i + 1) q h2,h3]
  have t6 : ∀ (i p : Nat) (o : IOp),is[i]? = some o → o.lo = true → p ≤ is.length → p ≤ limOf ls is.length i → stayOp F H0 o (E i) (Hs p) = true := by
    intro i p o ho hlo hp hpl0;obtain ⟨a,b,h1,_,_⟩ := r3 i o ho;have hpl : p < tr.length := by omega
    have := stays_spec hstay i o a ho h1 hlo p (Hs p) (by
      show (tr.map (·.2))[p]? = some (tr.getD p ([],[])).2;rw [List.getElem?_map,List.getElem?_eq_getElem hpl,trg p _ (List.getElem?_eq_getElem hpl)]; rfl) (fun n hn => by unfold limOf at hpl0; rw [hn] at hpl0; exact hpl0)
    show stayOp F H0 o (tr.getD i ([],[])).1 (Hs p) = true;rw [trg i a h1]; exact this
  obtain ⟨c1,c2⟩ := all2_get hc;have hlen : is.length = ops.size := by simpa using c1.symm
  have shape : ∀ (i : Nat) (o : IOp),is[i]? = some o → ∃ v,E (i + 1) = put (E i) o.dst v ∧ (o.k.quiet = true → Hs (i + 1) = Hs i) := by
    intro i o ho;have h5 := t5 i o ho;unfold exOp0 at h5
    split at h5
    · split at h5
      · rename_i hlo hq
        simp only [Option.map_eq_some_iff,Prod.mk.injEq] at h5;obtain ⟨⟨e1,Hx⟩,h5,e5,e6⟩ := h5;obtain ⟨v,h1,_,_⟩ := exOp_congr h5 (fun t _ => rfl) (fun _ => rfl);exact ⟨v,by rw [← e5]; exact h1,fun _ => e6.symm⟩
      · cases h5
    · obtain ⟨v,h1,h2,_⟩ := exOp_congr h5 (fun t _ => rfl) (fun _ => rfl);exact ⟨v,h1,h2⟩
  have lenE : ∀ i,i ≤ is.length → (E i).length = env0.length := by
    intro i
    induction i with
    | zero => intro _; rw [t1]
    | succ i ih =>
      intro hi;obtain ⟨v,h1,_⟩ := shape i is[i] (List.getElem?_eq_getElem (by omega));rw [h1,← ih (by omega)];cases is[i].dst <;> simp [put]
  have envAt : ∀ (t : Nat),(∀ (j : Nat) (o : IOp),is[j]? = some o → o.dst ≠ some t) → ∀ i,i ≤ is.length → (E i).getD t .un = env0.getD t .un := by
    intro t ht i
    induction i with
    | zero => intro _; rw [t1]
    | succ i ih =>
      intro hi;have ho := List.getElem?_eq_getElem (l := is) (i := i) (by omega);obtain ⟨v,h1,_⟩ := shape i _ ho;rw [h1,← ih (by omega)];have := ht i _ ho;cases hdd : is[i].dst with
      | none => rfl
      | some d =>
        have hne : d ≠ t := by rintro rfl; exact this hdd
        simp [put,List.getD,List.getElem?_set_ne hne]
  have envAt2 : ∀ (t j : Nat) (o : IOp),is[j]? = some o → o.dst = some t → ∀ i,i ≤ is.length → (E i).getD t .un = if j < i then envn.getD t .un else env0.getD t .un := by
    intro t j o hj hdj;have hjl : j < is.length := (List.getElem?_eq_some_iff.mp hj).1;have other : ∀ i,i < is.length → i ≠ j → (E (i + 1)).getD t .un = (E i).getD t .un := by
      intro i hi hij;have ho := List.getElem?_eq_getElem (l := is) hi;obtain ⟨v,h1,_⟩ := shape i _ ho;rw [h1];cases hdd : is[i].dst with
      | none => rfl
      | some d =>
        have hne : d ≠ t := by rintro rfl; exact hij (hd.dst i j d _ _ ho hj hdd hdj)
        simp [put,List.getD,List.getElem?_set_ne hne]
    have low : ∀ i,i ≤ j → (E i).getD t .un = env0.getD t .un := by
      intro i
      induction i with
      | zero => intro _; rw [t1]
      | succ i ih => intro hi; rw [other i (by omega) (by omega),ih (by omega)]
    have high : ∀ d,j + 1 + d ≤ is.length → (E (j + 1 + d)).getD t .un = (E (j + 1)).getD t .un := by
      intro d
      induction d with
      | zero => intro _; rfl
      | succ d ih => intro hi; rw [show j + 1 + (d + 1) = (j + 1 + d) + 1 by omega,other (j + 1 + d) (by omega) (by omega),ih (by omega)]
    intro i hi
    split
    · rename_i hji
      have e1 := high (i - (j + 1)) (by omega);have e2 := high (is.length - (j + 1)) (by omega);rw [show j + 1 + (i - (j + 1)) = i by omega] at e1;rw [show j + 1 + (is.length - (j + 1)) = is.length by omega,t3] at e2;rw [e1,e2]
    · exact low i (by omega)
  have hsame : ∀ d i,i + d ≤ is.length → (∀ (k : Nat) (o : IOp),i ≤ k → k < i + d → is[k]? = some o → o.k.quiet = true) → Hs (i + d) = Hs i := by
    intro d
    induction d with
    | zero => intro i _ _; rfl
    | succ d ih =>
      intro i hi hq;have ho := List.getElem?_eq_getElem (l := is) (i := i + d) (by omega);obtain ⟨v,_,h2⟩ := shape (i + d) _ ho;rw [show i + (d + 1) = (i + d) + 1 by omega,h2 (hq _ _ (by omega) (by omega) ho),ih i (by omega) (fun k o h1 h2 => hq k o h1 (by omega))]
  let listedP := fun (l : Array Bool) (i : Nat) => l.getD i false = true
  suffices key : ∀ (fuel : Nat) (l : Array Bool) (a : Act) (W : World) (wr : Nat → Prop) (own : Own) (p : Nat),l.size = ops.size → Ext wr0 W0 own0' wr W own →
      (∀ (i : Nat) (o : Oper) (e : Edge),l.getD i false = true → ops[i]? = some o → e ∈ o.after.toList → Region.binds .any e = true → l.getD e.on false = true) →
      p ≤ is.length → (∀ (w : Nat) (o : IOp),is[w]? = some o → o.k.quiet = false → (l.getD w false = true ↔ w < p)) →
      St wr W own (Hs p) → env0.length ≤ a.tmps.size → a.defers = a0.defers →
      (∀ (t : Nat),(∀ (j : Nat) (o : IOp),is[j]? = some o → o.dst ≠ some t) → VR wr W own (env0.getD t .un) (a.tmps.getD t undef)) →
      (∀ (t j : Nat) (o : IOp),is[j]? = some o → o.dst = some t → VR wr W own (if l.getD j false = true then envn.getD t .un else env0.getD t .un) (a.tmps.getD t undef)) →
      ((List.range ops.size).filter (fun i => !l.getD i false)).length ≤ fuel →
      wpAny P .any ops Q fuel l a W by
    refine key ops.size _ a0 W0 wr0 own0' 0 (by simp) (Ext.refl _ _ _) ?_ (Nat.zero_le _) ?_ (by rw [t2]; exact s0.st) s0.sz rfl (fun t _ => s0.vals t) ?_ ?_
    · intro i o e hl;have : (Array.replicate ops.size false).getD i false = false := by
        simp only [Array.getD_eq_getD_getElem?,Array.getElem?_replicate]; split <;> rfl
      rw [this] at hl; cases hl
    · intro w o _ _;have : (Array.replicate ops.size false).getD w false = false := by
        simp only [Array.getD_eq_getD_getElem?,Array.getElem?_replicate]; split <;> rfl
      rw [this]; simp
    · intro t j o _ _;have : (Array.replicate ops.size false).getD j false = false := by
        simp only [Array.getD_eq_getD_getElem?,Array.getElem?_replicate]; split <;> rfl
      rw [this]; simpa using s0.vals t
    · exact Nat.le_trans (List.length_filter_le _ _) (by simp)
  have precLt : ∀ j i,Prec ops j i → j < i := by
    intro j i h
    induction h with
    | edge ho he hb => exact hd.edge _ _ _ ho he hb
    | step ho he hb h ih => exact Nat.lt_trans ih (hd.edge _ _ _ ho he hb)
  have precIn : ∀ (l : Array Bool),(∀ (i : Nat) (o : Oper) (e : Edge),l.getD i false = true → ops[i]? = some o → e ∈ o.after.toList → Region.binds .any e = true → l.getD e.on false = true) →
      ∀ j i,Prec ops j i → (∀ (o : Oper) (e : Edge),ops[i]? = some o → e ∈ o.after.toList → Region.binds .any e = true → l.getD e.on false = true) → l.getD j false = true := by
    intro l hcl j i h
    induction h with
    | edge ho he hb => intro hi; exact hi _ _ ho he hb
    | step ho he hb h ih => intro hi; exact ih (fun o e h1 h2 h3 => hcl _ o e (hi _ _ ho he hb) h1 h2 h3)
  have heap_eq : ∀ p q,p ≤ is.length → q ≤ is.length → (∀ (w : Nat) (o : IOp),is[w]? = some o → o.k.quiet = false → (w < p ↔ w < q)) → Hs p = Hs q := by
    have one : ∀ p q,p ≤ q → q ≤ is.length → (∀ (w : Nat) (o : IOp),is[w]? = some o → o.k.quiet = false → (w < p ↔ w < q)) → Hs q = Hs p := by
      intro p q hpq hq hw;have := hsame (q - p) p (by omega) (fun k o h1 h2 hk => by
        cases hqk : o.k.quiet with
        | true => rfl
        | false => have := hw k o hk hqk; omega)
      rwa [show p + (q - p) = q by omega] at this
    intro p q hp hq hw;rcases Nat.le_total p q with h | h
    · exact (one p q h hq hw).symm
    · exact one q p h hp (fun w o h1 h2 => (hw w o h1 h2).symm)
  have finish : ∀ (l : Array Bool) (a : Act) (W : World) (wr : Nat → Prop) (own : Own) (p : Nat),Ext wr0 W0 own0' wr W own →
      p ≤ is.length → (∀ (w : Nat) (o : IOp),is[w]? = some o → o.k.quiet = false → (l.getD w false = true ↔ w < p)) →
      St wr W own (Hs p) → env0.length ≤ a.tmps.size → a.defers = a0.defers →
      (∀ (t : Nat),(∀ (j : Nat) (o : IOp),is[j]? = some o → o.dst ≠ some t) → VR wr W own (env0.getD t .un) (a.tmps.getD t undef)) →
      (∀ (t j : Nat) (o : IOp),is[j]? = some o → o.dst = some t → VR wr W own (if l.getD j false = true then envn.getD t .un else env0.getD t .un) (a.tmps.getD t undef)) →
      (∀ i,i < ops.size → l.getD i false = true) → Q .normal a W := by
    intro l a W wr own p hext hp hst hs hsz hdf hv1 hv2 hall;refine hQ a W wr own hext ⟨?_,?_,?_⟩ hdf
    · have e : Hs p = Hs is.length := heap_eq p is.length hp (Nat.le_refl _) (fun w o hw hq => by
        have hwl : w < is.length := (List.getElem?_eq_some_iff.mp hw).1;have := hst w o hw hq;rw [hall w (by omega)] at this
        simp at this; omega)
      rw [← t4,← e]; exact hs
    · intro t
      by_cases ht : ∃ (j : Nat) (o : IOp),is[j]? = some o ∧ o.dst = some t
      · obtain ⟨j,o,hj,hdj⟩ := ht;have := hv2 t j o hj hdj
        rwa [if_pos (hall j (by rw [← hlen]; exact (List.getElem?_eq_some_iff.mp hj).1))] at this
      · have hno : ∀ (j : Nat) (o : IOp),is[j]? = some o → o.dst ≠ some t := fun j o hj hdj => ht ⟨j,o,hj,hdj⟩
        have := envAt t hno is.length (Nat.le_refl _);rw [t3] at this;rw [this]; exact hv1 t hno
    · have := lenE is.length (Nat.le_refl _);rw [t3] at this; rw [this]; exact hsz
  have allOf : ∀ (l : Array Bool),l.size = ops.size → Region.ready .any ops l = [] → ∀ i,i < ops.size → l.getD i false = true := by
    intro l hl hr i
    induction i using Nat.strongRecOn with
    | _ i ih =>
      intro hi;cases hli : l.getD i false with
      | true => rfl
      | false =>
        exfalso
        have hm : i ∈ Region.ready .any ops l := by
          rw [mem_ready];refine ⟨?_,ops[i],by simp,fun e he hb => ?_⟩
          · simp only [Array.getD_eq_getD_getElem?] at hli ⊢;have : i < l.size := by omega
            simp [this] at hli ⊢; exact hli
          · have hlt := hd.edge i ops[i] e (by simp) (by simpa using he) hb;exact ih e.on hlt (by omega)
        rw [hr] at hm; simp at hm
  intro fuel
  induction fuel with
  | zero =>
    intro l a W wr own p hl hext hcl hp hst hs hsz hdf hv1 hv2 hm;have hall : ∀ i,i < ops.size → l.getD i false = true := by
      intro i hi;have hnil : (List.range ops.size).filter (fun i => !l.getD i false) = [] := List.eq_nil_of_length_eq_zero (by omega);have := List.filter_eq_nil_iff.mp hnil i (by simpa using hi)
      simpa using this
    refine ⟨?_,finish l a W wr own p hext hp hst hs hsz hdf hv1 hv2 hall⟩;apply List.eq_nil_iff_forall_not_mem.mpr;intro i hi;rw [mem_ready] at hi;obtain ⟨h0,o,ho,_⟩ := hi;have hlt : i < ops.size := (Array.getElem?_eq_some_iff.mp ho).1;have := hall i hlt;simp only [Array.getD_eq_getD_getElem?] at this h0;have hi' : i < l.size := by omega
    simp [hi'] at this h0
    rw [this] at h0; cases h0
  | succ fuel ih =>
    intro l a W wr own p hl hext hcl hp hst hs hsz hdf hv1 hv2 hm;refine ⟨fun hr => finish l a W wr own p hext hp hst hs hsz hdf hv1 hv2 (allOf l hl hr),?_⟩;intro i hi;rw [mem_ready] at hi;obtain ⟨hi0,o,ho,hpre⟩ := hi;have hilt : i < ops.size := (Array.getElem?_eq_some_iff.mp ho).1;have hio := List.getElem?_eq_getElem (l := is) (i := i) (by omega)
    generalize hgen : is[i] = io at hio
    have hli : l.getD i false = false := by
      simp only [Array.getD_eq_getD_getElem?] at hi0 ⊢;have hi' : i < l.size := by omega
      simp [hi'] at hi0 ⊢; exact hi0
    have hpre' : ∀ (o' : Oper) (e : Edge),ops[i]? = some o' → e ∈ o'.after.toList → Region.binds .any e = true → l.getD e.on false = true := by
      intro o' e ho' he hb;rw [ho] at ho'; cases ho';exact hpre e (by simpa using he) hb
    have cmpr : ∀ j,j ≠ i → Prec ops j i ∨ Prec ops i j → (l.getD j false = true ↔ j < i) := by
      intro j hji hc;rcases hc with hc | hc
      · have h1 := precLt _ _ hc;have h2 := precIn l hcl _ _ hc hpre'
        simp [h1,h2]
      · have h1 := precLt _ _ hc
        constructor
        · intro hlj;have := precIn l hcl _ _ hc (fun o' e h1 h2 h3 => hcl j o' e hlj h1 h2 h3);rw [hli] at this; cases this
        · intro h; omega
    let val : Nat → V := fun t => @ite _ (∃ (j : Nat) (o : IOp),is[j]? = some o ∧ o.dst = some t ∧ l.getD j false = true) (Classical.propDecidable _) (envn.getD t .un) (env0.getD t .un)
    have val1 : ∀ t,(∀ (j : Nat) (o : IOp),is[j]? = some o → o.dst ≠ some t) → val t = env0.getD t .un := by
      intro t ht;simp only [val];rw [if_neg];rintro ⟨j,o,hj,hdj,_⟩;exact ht j o hj hdj
    have val2 : ∀ (t j : Nat) (o : IOp),is[j]? = some o → o.dst = some t → val t = if l.getD j false = true then envn.getD t .un else env0.getD t .un := by
      intro t j o hj hdj;simp only [val]
      by_cases hlj : l.getD j false = true
      · rw [if_pos hlj,if_pos ⟨j,o,hj,hdj,hlj⟩]
      · rw [if_neg hlj,if_neg];rintro ⟨j',o',hj',hdj',hlj'⟩;have := hd.dst _ _ _ _ _ hj hj' hdj hdj';subst this;exact hlj hlj'
    let ES := (List.range env0.length).map val
    have hlenn : envn.length = env0.length := by have := lenE is.length (Nat.le_refl _); rwa [t3] at this
    have valout : ∀ t,env0.length ≤ t → val t = .un := by
      intro t ht;simp only [val]
      split
      · simp [List.getD,List.getElem?_eq_none (show envn.length ≤ t by omega)]
      · simp [List.getD,List.getElem?_eq_none ht]
    have ESget : ∀ t,ES.getD t .un = val t := by
      intro t
      by_cases ht : t < env0.length
      · simp [ES,List.getD,ht]
      · rw [valout t (by omega)]
        simp [ES,List.getD,ht]
    have ESvr : ∀ t,VR wr W own (ES.getD t .un) (a.tmps.getD t undef) := by
      intro t;rw [ESget]
      by_cases ht : ∃ (j : Nat) (o : IOp),is[j]? = some o ∧ o.dst = some t
      · obtain ⟨j,o,hj,hdj⟩ := ht;rw [val2 t j o hj hdj]; exact hv2 t j o hj hdj
      · have hno : ∀ (j : Nat) (o : IOp),is[j]? = some o → o.dst ≠ some t := fun j o hj hdj => ht ⟨j,o,hj,hdj⟩
        rw [val1 t hno]; exact hv1 t hno
    have hile : i ≤ is.length := by omega
    have hagree : Agree (E i) ES io.tm := by
      intro t ht;rw [ESget]
      by_cases htw : ∃ (j : Nat) (o : IOp),is[j]? = some o ∧ o.dst = some t
      · obtain ⟨j,o',hj,hdj⟩ := htw;rw [val2 t j o' hj hdj,envAt2 t j o' hj hdj i hile]
        by_cases hji : j = i
        · subst hji; simp [hli]
        · have := cmpr j hji (hd.nam i j t io o' (Ne.symm hji) hio hj hdj ht)
          by_cases hji' : j < i
          · rw [if_pos hji',if_pos (this.mpr hji')]
          · rw [if_neg hji',if_neg (fun h => hji' (this.mp h))]
      · have hno : ∀ (j : Nat) (o : IOp),is[j]? = some o → o.dst ≠ some t := fun j o hj hdj => htw ⟨j,o,hj,hdj⟩
        rw [val1 t hno,envAt t hno i hile]
    have hwr : io.hp = true → ∀ (w : Nat) (o' : IOp),is[w]? = some o' → o'.k.quiet = false → (w < p ↔ w < i) := by
      intro hhp w o' hw hq
      by_cases hwi : w = i
      · subst hwi;have := hst w o' hw hq;rw [hli] at this
        simp at this; omega
      · have h1 := hst w o' hw hq;have h2 := cmpr w hwi ((hd.wrt w i o' io hwi hw hio hq hhp).symm);rw [← h1,h2]
    have hheap : io.hp = true → Hs i = Hs p := fun hhp => heap_eq i p hile hp (fun w o' hw hq => (hwr hhp w o' hw hq).symm)
    have hstep : ∃ (v : V) (io' : IOp),io'.dst = io.dst ∧ io'.k = io.k ∧ io'.guard = io.guard ∧ E (i + 1) = put (E i) io.dst v ∧ exOp F io' ES (Hs p) = some (put ES io.dst v,if io.k.quiet then Hs p else Hs (i + 1)) := by
      have h5 := t5 i io hio;unfold exOp0 at h5
      split at h5
      · rename_i hlo
        split at h5
        · rename_i hq
          simp only [Option.map_eq_some_iff,Prod.mk.injEq] at h5;obtain ⟨⟨e1,Hx⟩,h5,e5,e6⟩ := h5;obtain ⟨v,h1,_,h3⟩ := exOp_congr (o := { io with lo := false }) h5 hagree (fun _ => rfl);refine ⟨v,{ io with lo := false },rfl,rfl,rfl,by rw [← e5]; exact h1,?_⟩;rw [if_pos hq];simp only [hq,if_true] at h3;have hst6 : stayOp F H0 io (E i) (Hs p) = true := by
            rcases Nat.lt_or_ge (limOf ls is.length i) p with hlim | hlim
            · have he : Hs (limOf ls is.length i) = Hs p := heap_eq _ _ (by omega) hp (fun w o' hw hqw => by
                constructor
                · intro h; omega
                · intro h;rcases hd.lo w i o' io hw hio hqw hlo with h2 | h2
                  · exact h2
                  · exfalso
                    have hlw := (hst w o' hw hqw).mpr h;have := precIn l hcl _ _ h2 (fun o'' e h1 h2 h3 => hcl w o'' e hlw h1 h2 h3);rw [hli] at this; cases this)
              rw [← he];exact t6 i _ io hio hlo (by omega) (Nat.le_refl _)
            · exact t6 i p io hio hlo hp hlim
          have hst7 : stayOp F H0 io ES (Hs p) = true := by
            have hg : gdR (E i) io.guard = gdR ES io.guard := by
              cases hgg : io.guard with
              | none => rfl
              | some q => obtain ⟨t,w⟩ := q; simp only [gdR]; rw [hagree t (by simp [IOp.tm,hgg])]
            have hk1 : ∀ h,evq F (E i) h io.k = evq F ES h io.k := fun h => evq_congr (hagree.sub (fun t ht => by simp [IOp.tm,ht])) (fun _ => rfl)
            unfold stayOp at hst6 ⊢;rw [hg,hk1,hk1] at hst6; exact hst6
          exact exOp_stay hq hst7 h3
        · cases h5
      · obtain ⟨v,h1,_,h3⟩ := exOp_congr h5 hagree hheap;exact ⟨v,io,rfl,rfl,rfl,h1,h3⟩
    obtain ⟨v,io',d1,d2,d3,e1,e3⟩ := hstep;have hchk : chkOp P ops o io' = true := by
      have := c2 i o io (by simpa using ho) hio;unfold chkOp at this ⊢;rw [d1,d2,d3]; exact this
    have ed : io.dst = io'.dst := d1.symm;rw [ed] at e3;have hsim : Sim wr W own (Hs p) ES a.tmps := ⟨hs,ESvr,by simpa [ES] using hsz⟩;unfold wpOp;rw [ho];refine exOp_sim hF hchk hsim e3 (fun a' W' wr' own' x1 x2 x3 => ?_);rw [← ed] at x2;have hsetlen : (put ES io.dst v).length = env0.length := by cases io.dst <;> simp [put,ES]
    have hpn : i < is.length := by omega
    refine ih (l.setIfInBounds i true) a' W' wr' own' (if io.k.quiet then p else i + 1) (by simpa using hl) (hext.trans x1) ?_ (by split <;> omega) ?_ ?_ (by have := x2.sz; omega) (by rw [x3,hdf]) ?_ ?_ ?_
    · intro k o' e hk ho' he hb
      by_cases hki : k = i
      · subst hki; exact getD_set_true (hpre' o' e ho' he hb)
      · rw [getD_set_ne false (Ne.symm hki)] at hk;exact getD_set_true (hcl k o' e hk ho' he hb)
    · intro w o' hw hq;cases hqi : io.k.quiet with
      | true =>
        have hwi : w ≠ i := by rintro rfl; rw [hio] at hw; cases hw; rw [hqi] at hq; cases hq
        rw [getD_set_ne false (Ne.symm hwi)]
        simpa using hst w o' hw hq
      | false =>
        simp only [Bool.false_eq_true,if_false]
        by_cases hwi : w = i
        · subst hwi;have hi' : w < l.size := by omega
          simp [Array.getD_eq_getD_getElem?,hi']
        · rw [getD_set_ne false (Ne.symm hwi),hst w o' hw hq,hwr (by simp [IOp.hp,hqi]) w o' hw hq]
          omega
    · have := x2.st;cases hqi : io.k.quiet with
      | true => rw [hqi] at this; simpa using this
      | false => rw [hqi] at this; simpa using this
    · intro t ht;have hne : io.dst ≠ some t := ht i io hio;have := x2.vals t;have e : (put ES io.dst v).getD t .un = ES.getD t .un := by
        cases hdd : io.dst with
        | none => rfl
        | some d =>
          have hdt : d ≠ t := by rintro rfl; exact hne hdd
          simp [put,List.getD,List.getElem?_set_ne hdt]
      rw [e,ESget,val1 t ht] at this;exact this
    · intro t j o' hj hdj;have := x2.vals t
      by_cases hji : j = i
      · subst hji;rw [hio] at hj; cases hj;have hi' : j < l.size := by omega
        have hlj : (l.setIfInBounds j true).getD j false = true := by simp [Array.getD_eq_getD_getElem?,hi']
        rw [if_pos hlj];have q1 := envAt2 t j io hio hdj (j + 1) (by omega);rw [if_pos (Nat.lt_succ_self j),e1] at q1;have q2 : (put ES io.dst v).getD t .un = (put (E j) io.dst v).getD t .un := by
          rw [hdj];simp only [put,List.getD];have l1 : ES.length = env0.length := by simp [ES]
          have l2 := lenE j (by omega)
          by_cases ht : t < env0.length
          · rw [List.getElem?_set_self (by omega),List.getElem?_set_self (by omega)]
          · rw [List.getElem?_eq_none (by simp; omega),List.getElem?_eq_none (by simp; omega)]
        rw [q2,q1] at this;exact this
      · have hdne : io.dst ≠ some t := fun h => hji (hd.dst _ _ _ _ _ hj hio hdj h)
        have e : (put ES io.dst v).getD t .un = ES.getD t .un := by
          cases hdd : io.dst with
          | none => rfl
          | some d =>
            have hdt : d ≠ t := by rintro rfl; exact hdne hdd
            simp [put,List.getD,List.getElem?_set_ne hdt]
        rw [e,ESget,val2 t j o' hj hdj] at this;rw [getD_set_ne false (Ne.symm hji)];exact this
    · have hsub : (List.range ops.size).filter (fun k => !(l.setIfInBounds i true).getD k false) = ((List.range ops.size).filter (fun k => !l.getD k false)).filter (fun k => k != i) := by
        rw [List.filter_filter];apply List.filter_congr;intro k hk
        by_cases hki : k = i
        · subst hki;have hi' : k < l.size := by omega
          have e : (l.setIfInBounds k true).getD k false = true := by simp [Array.getD_eq_getD_getElem?,hi']
          rw [e]; simp
        · rw [getD_set_ne false (Ne.symm hki)]
          simp [hki]
      rw [hsub];have : (((List.range ops.size).filter (fun k => !l.getD k false)).filter (fun k => k != i)).length < ((List.range ops.size).filter (fun k => !l.getD k false)).length := by
        rw [List.length_filter_lt_length_iff_exists];exact ⟨i,List.mem_filter.mpr ⟨by simpa using hilt,by rw [hli]; rfl⟩,by simp⟩
      omega
end
end Go.Eng
