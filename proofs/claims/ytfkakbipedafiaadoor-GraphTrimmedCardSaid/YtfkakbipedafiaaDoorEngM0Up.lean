/- Functions of this seat, run on unknown values by the rules of the small machine (no condition beyond those stated). -/
import Derived.Test.YtfkakbipedafiaaDoorEngKUp
import Derived.Scope
namespace Go.Eng
open Go
set_option linter.unusedSectionVars false
set_option linter.unusedVariables false
set_option linter.unusedSimpArgs false
variable [Glob]
theorem eqb2_sound {f : V → V → Bool} : ∀ {l r : List V},(∀ a ∈ l,∀ b,f a b = true → a = b) → eqb2 f l r = true → l = r
  | [],[],_,_ => rfl
  | a :: l,b :: r,hf,h => by
    simp only [eqb2,Bool.and_eq_true] at h;rw [hf a (by simp) b h.1,eqb2_sound (fun x hx => hf x (by simp [hx])) h.2]
  | [],_ :: _,_,h => by simp [eqb2] at h
  | _ :: _,[],_,h => by simp [eqb2] at h
theorem V.eqb_sound : ∀ (n : Nat) {a b : V},V.eqb n a b = true → a = b
  | 0,_,_,h => by simp [V.eqb] at h
  | n + 1,a,b,h => by
    have rcc : ∀ l r : List V,eqb2 (V.eqb n) l r = true → l = r := fun l r h => eqb2_sound (fun a _ b hb => V.eqb_sound n hb) h
    unfold V.eqb at h
    split at h
    all_goals first
      | rfl
      | (cases h; done)
      | skip
    all_goals try simp only [Bool.and_eq_true,beq_iff_eq] at h
    · rw [h]
    · rw [h.1,h.2]
    · rename_i s s'
      have : s = s' := by cases s; cases s'; simp at h; simp [h]
      rw [this]
    · rw [h.1.1,h.1.2,h.2]
    · obtain ⟨⟨⟨⟨⟨rfl,rfl⟩,rfl⟩,rfl⟩,rfl⟩,rfl⟩ := h; rfl
    · rw [h]
    · rw [V.eqb_sound n h]
    · rw [V.eqb_sound n h]
    · rw [rcc _ _ h]
    · rw [rcc _ _ h]
    · rw [rcc _ _ h]
    · obtain ⟨rfl,h⟩ := h; rw [rcc _ _ h]
theorem exOp_stay {F : FT} {o : IOp} {env : List V} {H0 H : Heap} {r : List V} (hq : o.k.quiet = true) (hs : stayOp F H0 o env H = true) (he : exOp F { o with lo := false } env H0 = some (r,H0)) : exOp F { o with lo := false } env H = some (r,H) := by
  have run : ∀ r,gdR env o.guard = true → exK F { o with lo := false } env H0 = some (r,H0) → exK F { o with lo := false } env H = some (r,H) := by
    intro r hg hr;unfold stayOp at hs;rw [hg] at hs;simp only [Bool.not_true,Bool.false_or] at hs;unfold exK at hr ⊢;simp only [hq,if_true,Bool.false_eq_true,if_false,Option.map_eq_some_iff,Prod.mk.injEq] at hr ⊢;obtain ⟨v,h1,h2,_⟩ := hr;rw [h1] at hs
    split at hs
    · rename_i a b ha hb
      cases hb;rw [V.eqb_sound _ hs] at ha;exact ⟨v,ha,h2,trivial⟩
    · cases hs
  unfold exOp at he ⊢;cases hg : o.guard with
  | none => simp only [hg] at he ⊢; exact run _ (by rw [hg]; rfl) he
  | some p =>
    obtain ⟨t,w⟩ := p;simp only [hg] at he ⊢
    split at he
    · rename_i b hb
      split at he
      · rename_i hbw; rw [if_pos hbw]; exact run _ (by rw [hg]; simp only [gdR,hb,hbw]; simp) he
      · rename_i hbw; rw [if_neg hbw]
        simp only [Option.some.injEq,Prod.mk.injEq] at he ⊢;exact ⟨he.1,trivial⟩
    · simp only [Option.some.injEq,Prod.mk.injEq] at he ⊢;exact ⟨he.1,trivial⟩
    · cases he
theorem exOps0_trace {F : FT} {H0 : Heap} : ∀ (is : List IOp) {env : List V} {H : Heap} {tr : List (List V × Heap)},exOps0 F H0 is env H = some tr →
    tr.length = is.length + 1 ∧ tr[0]? = some (env,H) ∧ ∀ (i : Nat) (o : IOp),is[i]? = some o → ∃ p q,tr[i]? = some p ∧ tr[i + 1]? = some q ∧ exOp0 F H0 o p.1 p.2 = some q
  | [],env,H,tr,h => by
    simp only [exOps0,Option.some.injEq] at h;subst h;exact ⟨rfl,rfl,fun i o h => by simp at h⟩
  | o :: r,env,H,tr,h => by
    simp only [exOps0] at h
    split at h
    · rename_i env1 H1 h1
      split at h
      · rename_i tr1 h2
        cases h;obtain ⟨e1,e2,e3⟩ := exOps0_trace r h2;refine ⟨by simp [e1],rfl,fun i p hp => ?_⟩;cases i with
        | zero => simp at hp; subst hp; exact ⟨_,_,rfl,by simpa using e2,h1⟩
        | succ i => obtain ⟨a,b,q1,q2,q3⟩ := e3 i p (by simpa using hp); exact ⟨a,b,by simpa using q1,by simpa using q2,q3⟩
      · cases h
    · cases h
def limOf (ls : List Nat) (n i : Nat) : Nat := match ls[i]? with | some k => k | none => n
theorem stays_spec {F : FT} {H0 : Heap} {hs : List Heap} : ∀ {ls : List Nat} {is : List IOp} {tr : List (List V × Heap)},stays F H0 hs ls is tr = true → ∀ (i : Nat) (o : IOp) (p : List V × Heap),is[i]? = some o → tr[i]? = some p → o.lo = true →
    ∀ (k : Nat) (h : Heap),hs[k]? = some h → (∀ n,ls[i]? = some n → k ≤ n) → stayOp F H0 o p.1 h = true
  | _,[],_,_,i,o,p,h,_,_ => by simp at h
  | _,_ :: _,[],_,i,o,p,_,h,_ => by simp at h
  | [],o :: r,q :: tr,hst,i,o',p,h1,h2,hl => by
    intro k h hk hn;simp only [stays,Bool.and_eq_true,Bool.or_eq_true,Bool.not_eq_true',List.all_eq_true] at hst;cases i with
    | zero =>
      simp at h1 h2; subst h1; subst h2
      rcases hst.1 with h | h
      · rw [hl] at h; cases h
      · exact h _ (List.mem_of_getElem? hk)
    | succ i => exact stays_spec hst.2 i o' p (by simpa using h1) (by simpa using h2) hl k h hk (fun n hn' => by simp at hn')
  | m :: ls,o :: r,q :: tr,hst,i,o',p,h1,h2,hl => by
    intro k h hk hn;simp only [stays,Bool.and_eq_true,Bool.or_eq_true,Bool.not_eq_true',List.all_eq_true] at hst;cases i with
    | zero =>
      simp at h1 h2; subst h1; subst h2
      rcases hst.1 with h | h
      · rw [hl] at h; cases h
      · have hkm := hn m rfl;refine h _ (List.mem_of_getElem? (i := k) ?_);rw [List.getElem?_take_of_lt (by omega)]; exact hk
    | succ i => exact stays_spec hst.2 i o' p (by simpa using h1) (by simpa using h2) hl k h hk (fun n hn' => hn n (by simpa using hn'))
def chkLim (ops : Array Oper) (is : List IOp) (ls : List Nat) : Bool :=
  let bs := befs ops.toList []
  allPairs is.length (fun w i => match is[w]?,is[i]? with
    | some a,some b => a.k.quiet || !b.lo || decide (w < limOf ls is.length i) || (bs.getD w 0).testBit i
    | _,_ => true)
structure Draw0Ok (ops : Array Oper) (is : List IOp) (ls : List Nat) : Prop extends DrawOk ops is where
  lo : ∀ (w i : Nat) (a b : IOp),is[w]? = some a → is[i]? = some b → a.k.quiet = false → b.lo = true → w < limOf ls is.length i ∨ Prec ops i w
theorem chkDraw0_spec {ops : Array Oper} {is : List IOp} {ls : List Nat} (h : chkDraw ops is = true) (h' : chkLim ops is ls = true) : Draw0Ok ops is ls := by
  refine ⟨chkDraw_spec h,?_⟩;intro w i a b ha hb hq hlo;have hp := befs_spec (ops := ops) ops.toList [] (fun k o hk => by simpa using hk) (fun m j hj => by simp at hj);simp only [chkLim,allPairs,List.all_eq_true,List.mem_range] at h';have := h' w (List.getElem?_eq_some_iff.mp ha).1 i (List.getElem?_eq_some_iff.mp hb).1;rw [ha,hb] at this;simp only [hq,hlo,Bool.not_true,Bool.or_false,Bool.false_or,Bool.or_eq_true,decide_eq_true_eq] at this;rcases this with h | h
  · exact .inl h
  · exact .inr (hp _ _ h)
section
variable {P : Program} {F : FT} {ops : Array Oper} {is : List IOp}
theorem draw0_sim (hF : FSim P F) {Q : Exit → Act → World → Prop} (hc : all2 (chkOp P ops) ops.toList is = true) {ls : List Nat} (hd : Draw0Ok ops is ls) {env0 envn : List V} {H0 Hn : Heap}
    {tr : List (List V × Heap)} (hex : exOps0 F H0 is env0 H0 = some tr) (hstay : stays F H0 (tr.map (·.2)) ls is tr = true) (hlast : tr.getLast? = some (envn,Hn)) {wr0 : Nat → Prop} {W0 : World} {own0' : Own} {a0 : Act} (s0 : Sim wr0 W0 own0' H0 env0 a0.tmps)
    (hQ : ∀ a' W' wr' own',Ext wr0 W0 own0' wr' W' own' → Sim wr' W' own' Hn envn a'.tmps → a'.defers = a0.defers → Q .normal a' W') :
    wpAny P .any ops Q ops.size (Array.replicate ops.size false) a0 W0 := by
  obtain ⟨r1,r2,r3⟩ := exOps0_trace is hex
  let E : Nat → List V := fun i => (tr.getD i ([],[])).1
  let Hs : Nat → Heap := fun i => (tr.getD i ([],[])).2
  have trg : ∀ (i : Nat) (p : List V × Heap),tr[i]? = some p → tr.getD i ([],[]) = p := fun i p h => by simp [List.getD,h]
  have t1 : E 0 = env0 := by show (tr.getD 0 ([],[])).1 = _; rw [trg 0 _ r2]
  have t2 : Hs 0 = H0 := by show (tr.getD 0 ([],[])).2 = _; rw [trg 0 _ r2]
  have hl0 : tr[is.length]? = some (envn,Hn) := by rw [List.getLast?_eq_getElem?,r1] at hlast; simpa using hlast
  have t3 : E is.length = envn := by show (tr.getD _ ([],[])).1 = _; rw [trg _ _ hl0]
  have t4 : Hs is.length = Hn := by show (tr.getD _ ([],[])).2 = _; rw [trg _ _ hl0]
  have t5 : ∀ (i : Nat) (o : IOp),is[i]? = some o → exOp0 F H0 o (E i) (Hs i) = some (E (i + 1),Hs (i + 1)) := by
    intro i o ho;obtain ⟨p,q,h1,h2,h3⟩ := r3 i o ho;show exOp0 F H0 o (tr.getD i ([],[])).1 (tr.getD i ([],[])).2 = some ((tr.getD (i + 1) ([],[])).1,(tr.getD (i + 1) ([],[])).2);rw [trg i p h1,trg (i + 1) q h2,h3]
  have t6 : ∀ (i p : Nat) (o : IOp),is[i]? = some o → o.lo = true → p ≤ is.length → p ≤ limOf ls is.length i → stayOp F H0 o (E i) (Hs p) = true := by
    intro i p o ho hlo hp hpl0;obtain ⟨a,b,h1,_,_⟩ := r3 i o ho;have hpl : p < tr.length := by omega
    have := stays_spec hstay i o a ho h1 hlo p (Hs p) (by
      show (tr.map (·.2))[p]? = some (tr.getD p ([],[])).2;rw [List.getElem?_map,List.getElem?_eq_getElem hpl,trg p _ (List.getElem?_eq_getElem hpl)]; rfl) (fun n hn => by unfold limOf at hpl0; rw [hn] at hpl0; exact hpl0)
    show stayOp F H0 o (tr.getD i ([],[])).1 (Hs p) = true;rw [trg i a h1]; exact this
  obtain ⟨c1,c2⟩ := all2_get hc;have hlen : is.length = ops.size := by simpa using c1.symm
  have shape : ∀ (i : Nat) (o : IOp),is[i]? = some o → ∃ v,E (i + 1) = put (E i) o.dst v ∧ (o.k.quiet = true → Hs (i + 1) = Hs i) := by
    intro i o ho;have h5 := t5 i o ho;unfold exOp0 at h5
    split at h5
    · split at h5
      · rename_i hlo hq
        simp only [Option.map_eq_some_iff,Prod.mk.injEq] at h5;obtain ⟨⟨e1,Hx⟩,h5,e5,e6⟩ := h5;obtain ⟨v,h1,_,_⟩ := exOp_congr h5 (fun t _ => rfl) (fun _ => rfl);exact ⟨v,by rw [← e5]; exact h1,fun _ => e6.symm⟩
      · cases h5
    · obtain ⟨v,h1,h2,_⟩ := exOp_congr h5 (fun t _ => rfl) (fun _ => rfl);exact ⟨v,h1,h2⟩
  have lenE : ∀ i,i ≤ is.length → (E i).length = env0.length := by
    intro i
    induction i with
    | zero => intro _; rw [t1]
    | succ i ih =>
      intro hi;obtain ⟨v,h1,_⟩ := shape i is[i] (List.getElem?_eq_getElem (by omega));rw [h1,← ih (by omega)];cases is[i].dst <;> simp [put]
  have envAt : ∀ (t : Nat),(∀ (j : Nat) (o : IOp),is[j]? = some o → o.dst ≠ some t) → ∀ i,i ≤ is.length → (E i).getD t .un = env0.getD t .un := by
    intro t ht i
    induction i with
    | zero => intro _; rw [t1]
    | succ i ih =>
      intro hi;have ho := List.getElem?_eq_getElem (l := is) (i := i) (by omega);obtain ⟨v,h1,_⟩ := shape i _ ho;rw [h1,← ih (by omega)];have := ht i _ ho;cases hdd : is[i].dst with
      | none => rfl
      | some d =>
        have hne : d ≠ t := by rintro rfl; exact this hdd
        simp [put,List.getD,List.getElem?_set_ne hne]
  have envAt2 : ∀ (t j : Nat) (o : IOp),is[j]? = some o → o.dst = some t → ∀ i,i ≤ is.length → (E i).getD t .un = if j < i then envn.getD t .un else env0.getD t .un := by
    intro t j o hj hdj;have hjl : j < is.length := (List.getElem?_eq_some_iff.mp hj).1;have other : ∀ i,i < is.length → i ≠ j → (E (i + 1)).getD t .un = (E i).getD t .un := by
      intro i hi hij;have ho := List.getElem?_eq_getElem (l := is) hi;obtain ⟨v,h1,_⟩ := shape i _ ho;rw [h1];cases hdd : is[i].dst with
      | none => rfl
      | some d =>
        have hne : d ≠ t := by rintro rfl; exact hij (hd.dst i j d _ _ ho hj hdd hdj)
        simp [put,List.getD,List.getElem?_set_ne hne]
    have low : ∀ i,i ≤ j → (E i).getD t .un = env0.getD t .un := by
      intro i
      induction i with
      | zero => intro _; rw [t1]
      | succ i ih => intro hi; rw [other i (by omega) (by omega),ih (by omega)]
    have high : ∀ d,j + 1 + d ≤ is.length → (E (j + 1 + d)).getD t .un = (E (j + 1)).getD t .un := by
      intro d
      induction d with
      | zero => intro _; rfl
      | succ d ih => intro hi; rw [show j + 1 + (d + 1) = (j + 1 + d) + 1 by omega,other (j + 1 + d) (by omega) (by omega),ih (by omega)]
    intro i hi
    split
    · rename_i hji
      have e1 := high (i - (j + 1)) (by omega);have e2 := high (is.length - (j + 1)) (by omega);rw [show j + 1 + (i - (j + 1)) = i by omega] at e1;rw [show j + 1 + (is.length - (j + 1)) = is.length by omega,t3] at e2;rw [e1,e2]
    · exact low i (by omega)
  have hsame : ∀ d i,i + d ≤ is.length → (∀ (k : Nat) (o : IOp),i ≤ k → k < i + d → is[k]? = some o → o.k.quiet = true) → Hs (i + d) = Hs i := by
    intro d
    induction d with
    | zero => intro i _ _; rfl
    | succ d ih =>
      intro i hi hq;have ho := List.getElem?_eq_getElem (l := is) (i := i + d) (by omega);obtain ⟨v,_,h2⟩ := shape (i + d) _ ho;rw [show i + (d + 1) = (i + d) + 1 by omega,h2 (hq _ _ (by omega) (by omega) ho),ih i (by omega) (fun k o h1 h2 => hq k o h1 (by omega))]
  let listedP := fun (l : Array Bool) (i : Nat) => l.getD i false = true
  suffices key : ∀ (fuel : Nat) (l : Array Bool) (a : Act) (W : World) (wr : Nat → Prop) (own : Own) (p : Nat),l.size = ops.size → Ext wr0 W0 own0' wr W own →
      (∀ (i : Nat) (o : Oper) (e : Edge),l.getD i false = true → ops[i]? = some o → e ∈ o.after.toList → Region.binds .any e = true → l.getD e.on false = true) →
      p ≤ is.length → (∀ (w : Nat) (o : IOp),is[w]? = some o → o.k.quiet = false → (l.getD w false = true ↔ w < p)) →
      St wr W own (Hs p) → env0.length ≤ a.tmps.size → a.defers = a0.defers →
      (∀ (t : Nat),(∀ (j : Nat) (o : IOp),is[j]? = some o → o.dst ≠ some t) → VR wr W own (env0.getD t .un) (a.tmps.getD t undef)) →
      (∀ (t j : Nat) (o : IOp),is[j]? = some o → o.dst = some t → VR wr W own (if l.getD j false = true then envn.getD t .un else env0.getD t .un) (a.tmps.getD t undef)) →
      ((List.range ops.size).filter (fun i => !l.getD i false)).length ≤ fuel →
      wpAny P .any ops Q fuel l a W by
    refine key ops.size _ a0 W0 wr0 own0' 0 (by simp) (Ext.refl _ _ _) ?_ (Nat.zero_le _) ?_ (by rw [t2]; exact s0.st) s0.sz rfl (fun t _ => s0.vals t) ?_ ?_
    · intro i o e hl;have : (Array.replicate ops.size false).getD i false = false := by
        simp only [Array.getD_eq_getD_getElem?,Array.getElem?_replicate]; split <;> rfl
      rw [this] at hl; cases hl
    · intro w o _ _;have : (Array.replicate ops.size false).getD w false = false := by
        simp only [Array.getD_eq_getD_getElem?,Array.getElem?_replicate]; split <;> rfl
      rw [this]; simp
    · intro t j o _ _;have : (Array.replicate ops.size false).getD j false = false := by
        simp only [Array.getD_eq_getD_getElem?,Array.getElem?_replicate]; split <;> rfl
      rw [this]; simpa using s0.vals t
    · exact Nat.le_trans (List.length_filter_le _ _) (by simp)
  have precLt : ∀ j i,Prec ops j i → j < i := by
    intro j i h
    induction h with
    | edge ho he hb => exact hd.edge _ _ _ ho he hb
    | step ho he hb h ih => exact Nat.lt_trans ih (hd.edge _ _ _ ho he hb)
  have precIn : ∀ (l : Array Bool),(∀ (i : Nat) (o : Oper) (e : Edge),l.getD i false = true → ops[i]? = some o → e ∈ o.after.toList → Region.binds .any e = true → l.getD e.on false = true) →
      ∀ j i,Prec ops j i → (∀ (o : Oper) (e : Edge),ops[i]? = some o → e ∈ o.after.toList → Region.binds .any e = true → l.getD e.on false = true) → l.getD j false = true := by
    intro l hcl j i h
    induction h with
    | edge ho he hb => intro hi; exact hi _ _ ho he hb
    | step ho he hb h ih => intro hi; exact ih (fun o e h1 h2 h3 => hcl _ o e (hi _ _ ho he hb) h1 h2 h3)
  have heap_eq : ∀ p q,p ≤ is.length → q ≤ is.length → (∀ (w : Nat) (o : IOp),is[w]? = some o → o.k.quiet = false → (w < p ↔ w < q)) → Hs p = Hs q := by
    have one : ∀ p q,p ≤ q → q ≤ is.length → (∀ (w : Nat) (o : IOp),is[w]? = some o → o.k.quiet = false → (w < p ↔ w < q)) → Hs q = Hs p := by
      intro p q hpq hq hw;have := hsame (q - p) p (by omega) (fun k o h1 h2 hk => by
        cases hqk : o.k.quiet with
        | true => rfl
        | false => have := hw k o hk hqk; omega)
      rwa [show p + (q - p) = q by omega] at this
    intro p q hp hq hw;rcases Nat.le_total p q with h | h
    · exact (one p q h hq hw).symm
    · exact one q p h hp (fun w o h1 h2 => (hw w o h1 h2).symm)
  have finish : ∀ (l : Array Bool) (a : Act) (W : World) (wr : Nat → Prop) (own : Own) (p : Nat),Ext wr0 W0 own0' wr W own →
      p ≤ is.length → (∀ (w : Nat) (o : IOp),is[w]? = some o → o.k.quiet = false → (l.getD w false = true ↔ w < p)) →
      St wr W own (Hs p) → env0.length ≤ a.tmps.size → a.defers = a0.defers →
      (∀ (t : Nat),(∀ (j : Nat) (o : IOp),is[j]? = some o → o.dst ≠ some t) → VR wr W own (env0.getD t .un) (a.tmps.getD t undef)) →
      (∀ (t j : Nat) (o : IOp),is[j]? = some o → o.dst = some t → VR wr W own (if l.getD j false = true then envn.getD t .un else env0.getD t .un) (a.tmps.getD t undef)) →
      (∀ i,i < ops.size → l.getD i false = true) → Q .normal a W := by
    intro l a W wr own p hext hp hst hs hsz hdf hv1 hv2 hall;refine hQ a W wr own hext ⟨?_,?_,?_⟩ hdf
    · have e : Hs p = Hs is.length := heap_eq p is.length hp (Nat.le_refl _) (fun w o hw hq => by
        have hwl : w < is.length := (List.getElem?_eq_some_iff.mp hw).1;have := hst w o hw hq;rw [hall w (by omega)] at this
        simp at this; omega)
      rw [← t4,← e]; exact hs
    · intro t
      by_cases ht : ∃ (j : Nat) (o : IOp),is[j]? = some o ∧ o.dst = some t
      · obtain ⟨j,o,hj,hdj⟩ := ht;have := hv2 t j o hj hdj
        rwa [if_pos (hall j (by rw [← hlen]; exact (List.getElem?_eq_some_iff.mp hj).1))] at this
      · have hno : ∀ (j : Nat) (o : IOp),is[j]? = some o → o.dst ≠ some t := fun j o hj hdj => ht ⟨j,o,hj,hdj⟩
        have := envAt t hno is.length (Nat.le_refl _);rw [t3] at this;rw [this]; exact hv1 t hno
    · have := lenE is.length (Nat.le_refl _);rw [t3] at this; rw [this]; exact hsz
  have allOf : ∀ (l : Array Bool),l.size = ops.size → Region.ready .any ops l = [] → ∀ i,i < ops.size → l.getD i false = true := by
    intro l hl hr i
    induction i using Nat.strongRecOn with
    | _ i ih =>
      intro hi;cases hli : l.getD i false with
      | true => rfl
      | false =>
        exfalso
        have hm : i ∈ Region.ready .any ops l := by
          rw [mem_ready];refine ⟨?_,ops[i],by simp,fun e he hb => ?_⟩
          · simp only [Array.getD_eq_getD_getElem?] at hli ⊢;have : i < l.size := by omega
            simp [this] at hli ⊢; exact hli
          · have hlt := hd.edge i ops[i] e (by simp) (by simpa using he) hb;exact ih e.on hlt (by omega)
        rw [hr] at hm; simp at hm
  intro fuel
  induction fuel with
  | zero =>
    intro l a W wr own p hl hext hcl hp hst hs hsz hdf hv1 hv2 hm;have hall : ∀ i,i < ops.size → l.getD i false = true := by
      intro i hi;have hnil : (List.range ops.size).filter (fun i => !l.getD i false) = [] := List.eq_nil_of_length_eq_zero (by omega);have := List.filter_eq_nil_iff.mp hnil i (by simpa using hi)
      simpa using this
    refine ⟨?_,finish l a W wr own p hext hp hst hs hsz hdf hv1 hv2 hall⟩;apply List.eq_nil_iff_forall_not_mem.mpr;intro i hi;rw [mem_ready] at hi;obtain ⟨h0,o,ho,_⟩ := hi;have hlt : i < ops.size := (Array.getElem?_eq_some_iff.mp ho).1;have := hall i hlt;simp only [Array.getD_eq_getD_getElem?] at this h0;have hi' : i < l.size := by omega
    simp [hi'] at this h0
    rw [this] at h0; cases h0
  | succ fuel ih =>
    intro l a W wr own p hl hext hcl hp hst hs hsz hdf hv1 hv2 hm;refine ⟨fun hr => finish l a W wr own p hext hp hst hs hsz hdf hv1 hv2 (allOf l hl hr),?_⟩;intro i hi;rw [mem_ready] at hi;obtain ⟨hi0,o,ho,hpre⟩ := hi;have hilt : i < ops.size := (Array.getElem?_eq_some_iff.mp ho).1;have hio := List.getElem?_eq_getElem (l := is) (i := i) (by omega)
    generalize hgen : is[i] = io at hio
    have hli : l.getD i false = false := by
      simp only [Array.getD_eq_getD_getElem?] at hi0 ⊢;have hi' : i < l.size := by omega
      simp [hi'] at hi0 ⊢; exact hi0
    have hpre' : ∀ (o' : Oper) (e : Edge),ops[i]? = some o' → e ∈ o'.after.toList → Region.binds .any e = true → l.getD e.on false = true := by
      intro o' e ho' he hb;rw [ho] at ho'; cases ho';exact hpre e (by simpa using he) hb
    have cmpr : ∀ j,j ≠ i → Prec ops j i ∨ Prec ops i j → (l.getD j false = true ↔ j < i) := by
      intro j hji hc;rcases hc with hc | hc
      · have h1 := precLt _ _ hc;have h2 := precIn l hcl _ _ hc hpre'
        simp [h1,h2]
      · have h1 := precLt _ _ hc
        constructor
        · intro hlj;have := precIn l hcl _ _ hc (fun o' e h1 h2 h3 => hcl j o' e hlj h1 h2 h3);rw [hli] at this; cases this
        · intro h; omega
    let val : Nat → V := fun t => @ite _ (∃ (j : Nat) (o : IOp),is[j]? = some o ∧ o.dst = some t ∧ l.getD j false = true) (Classical.propDecidable _) (envn.getD t .un) (env0.getD t .un)
    have val1 : ∀ t,(∀ (j : Nat) (o : IOp),is[j]? = some o → o.dst ≠ some t) → val t = env0.getD t .un := by
      intro t ht;simp only [val];rw [if_neg];rintro ⟨j,o,hj,hdj,_⟩;exact ht j o hj hdj
    have val2 : ∀ (t j : Nat) (o : IOp),is[j]? = some o → o.dst = some t → val t = if l.getD j false = true then envn.getD t .un else env0.getD t .un := by
      intro t j o hj hdj;simp only [val]
      by_cases hlj : l.getD j false = true
      · rw [if_pos hlj,if_pos ⟨j,o,hj,hdj,hlj⟩]
      · rw [if_neg hlj,if_neg];rintro ⟨j',o',hj',hdj',hlj'⟩;have := hd.dst _ _ _ _ _ hj hj' hdj hdj';subst this;exact hlj hlj'
    let ES := (List.range env0.length).map val
    have hlenn : envn.length = env0.length := by have := lenE is.length (Nat.le_refl _); rwa [t3] at this
    have valout : ∀ t,env0.length ≤ t → val t = .un := by
      intro t ht;simp only [val]
      split
      · simp [List.getD,List.getElem?_eq_none (show envn.length ≤ t by omega)]
      · simp [List.getD,List.getElem?_eq_none ht]
    have ESget : ∀ t,ES.getD t .un = val t := by
      intro t
      by_cases ht : t < env0.length
      · simp [ES,List.getD,ht]
      · rw [valout t (by omega)]
        simp [ES,List.getD,ht]
    have ESvr : ∀ t,VR wr W own (ES.getD t .un) (a.tmps.getD t undef) := by
      intro t;rw [ESget]
      by_cases ht : ∃ (j : Nat) (o : IOp),is[j]? = some o ∧ o.dst = some t
      · obtain ⟨j,o,hj,hdj⟩ := ht;rw [val2 t j o hj hdj]; exact hv2 t j o hj hdj
      · have hno : ∀ (j : Nat) (o : IOp),is[j]? = some o → o.dst ≠ some t := fun j o hj hdj => ht ⟨j,o,hj,hdj⟩
        rw [val1 t hno]; exact hv1 t hno
    have hile : i ≤ is.length := by omega
    have hagree : Agree (E i) ES io.tm := by
      intro t ht;rw [ESget]
      by_cases htw : ∃ (j : Nat) (o : IOp),is[j]? = some o ∧ o.dst = some t
      · obtain ⟨j,o',hj,hdj⟩ := htw;rw [val2 t j o' hj hdj,envAt2 t j o' hj hdj i hile]
        by_cases hji : j = i
        · subst hji; simp [hli]
        · have := cmpr j hji (hd.nam i j t io o' (Ne.symm hji) hio hj hdj ht)
          by_cases hji' : j < i
          · rw [if_pos hji',if_pos (this.mpr hji')]
          · rw [if_neg hji',if_neg (fun h => hji' (this.mp h))]
      · have hno : ∀ (j : Nat) (o : IOp),is[j]? = some o → o.dst ≠ some t := fun j o hj hdj => htw ⟨j,o,hj,hdj⟩
        rw [val1 t hno,envAt t hno i hile]
    have hwr : io.hp = true → ∀ (w : Nat) (o' : IOp),is[w]? = some o' → o'.k.quiet = false → (w < p ↔ w < i) := by
      intro hhp w o' hw hq
      by_cases hwi : w = i
      · subst hwi;have := hst w o' hw hq;rw [hli] at this
        simp at this; omega
      · have h1 := hst w o' hw hq;have h2 := cmpr w hwi ((hd.wrt w i o' io hwi hw hio hq hhp).symm);rw [← h1,h2]
    have hheap : io.hp = true → Hs i = Hs p := fun hhp => heap_eq i p hile hp (fun w o' hw hq => (hwr hhp w o' hw hq).symm)
    have hstep : ∃ (v : V) (io' : IOp),io'.dst = io.dst ∧ io'.k = io.k ∧ io'.guard = io.guard ∧ E (i + 1) = put (E i) io.dst v ∧ exOp F io' ES (Hs p) = some (put ES io.dst v,if io.k.quiet then Hs p else Hs (i + 1)) := by
      have h5 := t5 i io hio;unfold exOp0 at h5
      split at h5
      · rename_i hlo
        split at h5
        · rename_i hq
          simp only [Option.map_eq_some_iff,Prod.mk.injEq] at h5;obtain ⟨⟨e1,Hx⟩,h5,e5,e6⟩ := h5;obtain ⟨v,h1,_,h3⟩ := exOp_congr (o := { io with lo := false }) h5 hagree (fun _ => rfl);refine ⟨v,{ io with lo := false },rfl,rfl,rfl,by rw [← e5]; exact h1,?_⟩;rw [if_pos hq];simp only [hq,if_true] at h3;have hst6 : stayOp F H0 io (E i) (Hs p) = true := by
            rcases Nat.lt_or_ge (limOf ls is.length i) p with hlim | hlim
            · have he : Hs (limOf ls is.length i) = Hs p := heap_eq _ _ (by omega) hp (fun w o' hw hqw => by
                constructor
                · intro h; omega
                · intro h;rcases hd.lo w i o' io hw hio hqw hlo with h2 | h2
                  · exact h2
                  · exfalso
                    have hlw := (hst w o' hw hqw).mpr h;have := precIn l hcl _ _ h2 (fun o'' e h1 h2 h3 => hcl w o'' e hlw h1 h2 h3);rw [hli] at this; cases this)
              rw [← he];exact t6 i _ io hio hlo (by omega) (Nat.le_refl _)
            · exact t6 i p io hio hlo hp hlim
          have hst7 : stayOp F H0 io ES (Hs p) = true := by
            have hg : gdR (E i) io.guard = gdR ES io.guard := by
              cases hgg : io.guard with
              | none => rfl
              | some q => obtain ⟨t,w⟩ := q; simp only [gdR]; rw [hagree t (by simp [IOp.tm,hgg])]
            have hk1 : ∀ h,evq F (E i) h io.k = evq F ES h io.k := fun h => evq_congr (hagree.sub (fun t ht => by simp [IOp.tm,ht])) (fun _ => rfl)
            unfold stayOp at hst6 ⊢;rw [hg,hk1,hk1] at hst6; exact hst6
          exact exOp_stay hq hst7 h3
        · cases h5
      · obtain ⟨v,h1,_,h3⟩ := exOp_congr h5 hagree hheap;exact ⟨v,io,rfl,rfl,rfl,h1,h3⟩
    obtain ⟨v,io',d1,d2,d3,e1,e3⟩ := hstep;have hchk : chkOp P ops o io' = true := by
      have := c2 i o io (by simpa using ho) hio;unfold chkOp at this ⊢;rw [d1,d2,d3]; exact this
    have ed : io.dst = io'.dst := d1.symm;rw [ed] at e3;have hsim : Sim wr W own (Hs p) ES a.tmps := ⟨hs,ESvr,by simpa [ES] using hsz⟩;unfold wpOp;rw [ho];refine exOp_sim hF hchk hsim e3 (fun a' W' wr' own' x1 x2 x3 => ?_);rw [← ed] at x2;have hsetlen : (put ES io.dst v).length = env0.length := by cases io.dst <;> simp [put,ES]
    have hpn : i < is.length := by omega
    refine ih (l.setIfInBounds i true) a' W' wr' own' (if io.k.quiet then p else i + 1) (by simpa using hl) (hext.trans x1) ?_ (by split <;> omega) ?_ ?_ (by have := x2.sz; omega) (by rw [x3,hdf]) ?_ ?_ ?_
    · intro k o' e hk ho' he hb
      by_cases hki : k = i
      · subst hki; exact getD_set_true (hpre' o' e ho' he hb)
      · rw [getD_set_ne false (Ne.symm hki)] at hk;exact getD_set_true (hcl k o' e hk ho' he hb)
    · intro w o' hw hq;cases hqi : io.k.quiet with
      | true =>
        have hwi : w ≠ i := by rintro rfl; rw [hio] at hw; cases hw; rw [hqi] at hq; cases hq
        rw [getD_set_ne false (Ne.symm hwi)]
        simpa using hst w o' hw hq
      | false =>
        simp only [Bool.false_eq_true,if_false]
        by_cases hwi : w = i
        · subst hwi;have hi' : w < l.size := by omega
          simp [Array.getD_eq_getD_getElem?,hi']
        · rw [getD_set_ne false (Ne.symm hwi),hst w o' hw hq,hwr (by simp [IOp.hp,hqi]) w o' hw hq]
          omega
    · have := x2.st;cases hqi : io.k.quiet with
      | true => rw [hqi] at this; simpa using this
      | false => rw [hqi] at this; simpa using this
    · intro t ht;have hne : io.dst ≠ some t := ht i io hio;have := x2.vals t;have e : (put ES io.dst v).getD t .un = ES.getD t .un := by
        cases hdd : io.dst with
        | none => rfl
        | some d =>
          have hdt : d ≠ t := by rintro rfl; exact hne hdd
          simp [put,List.getD,List.getElem?_set_ne hdt]
      rw [e,ESget,val1 t ht] at this;exact this
    · intro t j o' hj hdj;have := x2.vals t
      by_cases hji : j = i
      · subst hji;rw [hio] at hj; cases hj;have hi' : j < l.size := by omega
        have hlj : (l.setIfInBounds j true).getD j false = true := by simp [Array.getD_eq_getD_getElem?,hi']
        rw [if_pos hlj];have q1 := envAt2 t j io hio hdj (j + 1) (by omega);rw [if_pos (Nat.lt_succ_self j),e1] at q1;have q2 : (put ES io.dst v).getD t .un = (put (E j) io.dst v).getD t .un := by
          rw [hdj];simp only [put,List.getD];have l1 : ES.length = env0.length := by simp [ES]
          have l2 := lenE j (by omega)
          by_cases ht : t < env0.length
          · rw [List.getElem?_set_self (by omega),List.getElem?_set_self (by omega)]
          · rw [List.getElem?_eq_none (by simp; omega),List.getElem?_eq_none (by simp; omega)]
        rw [q2,q1] at this;exact this
      · have hdne : io.dst ≠ some t := fun h => hji (hd.dst _ _ _ _ _ hj hio hdj h)
        have e : (put ES io.dst v).getD t .un = ES.getD t .un := by
          cases hdd : io.dst with
          | none => rfl
          | some d =>
            have hdt : d ≠ t := by rintro rfl; exact hdne hdd
            simp [put,List.getD,List.getElem?_set_ne hdt]
        rw [e,ESget,val2 t j o' hj hdj] at this;rw [getD_set_ne false (Ne.symm hji)];exact this
    · have hsub : (List.range ops.size).filter (fun k => !(l.setIfInBounds i true).getD k false) = ((List.range ops.size).filter (fun k => !l.getD k false)).filter (fun k => k != i) := by
        rw [List.filter_filter];apply List.filter_congr;intro k hk
        by_cases hki : k = i
        · subst hki;have hi' : k < l.size := by omega
          have e : (l.setIfInBounds k true).getD k false = true := by simp [Array.getD_eq_getD_getElem?,hi']
          rw [e]; simp
        · rw [getD_set_ne false (Ne.symm hki)]
          simp [hki]
      rw [hsub];have : (((List.range ops.size).filter (fun k => !l.getD k false)).filter (fun k => k != i)).length < ((List.range ops.size).filter (fun k => !l.getD k false)).length := by
        rw [List.length_filter_lt_length_iff_exists];exact ⟨i,List.mem_filter.mpr ⟨by simpa using hilt,by rw [hli]; rfl⟩,by simp⟩
      omega
end
end Go.Eng
namespace Go.Eng
open Go
set_option linter.unusedSectionVars false
set_option linter.unusedVariables false
set_option linter.unusedSimpArgs false
variable [Glob]
def chkC (P : Program) : Code → Ir → Bool
  | c,.clr _ b => chkC P c b
  | c,.fin _ b => chkC P c b
  | .skip,.skip => true
  | .label _,.skip => true
  | .scope c,.scope x => chkC P c x
  | .ret,.ret => true
  | .exit i,.exit j => i == j
  | .seq a b,.seq x y => chkC P a x && chkC P b y
  | .cond c a b,.cond d x y => chkOpd c d && chkC P a x && chkC P b y
  | .block i a,.block j x => i == j && chkC P a x
  | .loop a,.loop x => chkC P a x
  | .region _ ops dr,.rgd ls is => dr && all2 (chkOp P ops) ops.toList is && (chkDraw ops is && chkLim ops is ls && P.follows .mixedOrders)
  | .region _ ops dr,.rgn is => all2 (chkOp P ops) ops.toList is && (!dr || (chkDraw ops is && P.follows .mixedOrders))
  | _,_ => false
def X.to : X → Exit
  | .nrm => .normal
  | .ret => .ret
  | .ext i => .exit i
theorem clr_sim {wr : Nat → Prop} {W : World} {own : Own} {tmps : Array Value} : ∀ (ts : List Nat) {env : List V},(∀ t,VR wr W own (env.getD t .un) (tmps.getD t undef)) → env.length ≤ tmps.size →
    (∀ t,VR wr W own ((clrEnv ts env).getD t .un) (tmps.getD t undef)) ∧ (clrEnv ts env).length ≤ tmps.size
  | [],env,h,hs => ⟨h,hs⟩
  | d :: ts,env,h,hs => by
    refine clr_sim ts (env := env.set d .un) (fun t => ?_) (by simpa using hs)
    by_cases htd : t = d
    · subst htd;have : (env.set t .un).getD t .un = .un := by
        by_cases hlt : t < env.length <;> simp [List.getD,hlt]
      rw [this]; exact .un _
    · have : (env.set d .un).getD t .un = env.getD t .un := by simp [List.getD,List.getElem?_set_ne (Ne.symm htd)]
      rw [this]; exact h t
section
variable {P : Program} {F : FT}
def Post (wr : Nat → Prop) (W : World) (own : Own) (H' : Heap) (env' : List V) (x : X) (ds : List Deferred) (Q : Exit → Act → World → Prop) : Prop :=
  ∀ a' W' wr' own',Ext wr W own wr' W' own' → Sim wr' W' own' H' env' a'.tmps → a'.defers = ds → Q x.to a' W'
theorem exec_sim (hF : FSim P F) : ∀ (k : Nat) (ir : Ir) (c : Code),chkC P c ir = true → ∀ {env env' : List V} {H H' : Heap} {x : X},exec F k ir env H = some (x,env',H') →
    ∀ {wr : Nat → Prop} {W : World} {own : Own} {a : Act} {Q : Exit → Act → World → Prop},Sim wr W own H env a.tmps → Post wr W own H' env' x a.defers Q → c.wp P Q a W
  | 0,ir,c,_,env,env',H,H',x,h,_,_,_,_,_,_,_ => by simp [exec] at h
  | k + 1,ir,c,hc,env,env',H,H',x,h,wr,W,own,a,Q,s,hQ => by
    cases ir with
    | clr ts b =>
      have hc' : chkC P c b = true := by cases c <;> simpa [chkC] using hc
      simp only [exec] at h;obtain ⟨e1,e2⟩ := clr_sim ts s.vals s.sz;exact exec_sim hF k b c hc' h ⟨s.st,e1,e2⟩ hQ
    | fin ds b =>
      have hc' : chkC P c b = true := by cases c <;> simpa [chkC] using hc
      simp only [exec] at h;exact exec_sim hF k b c hc' h s hQ
    | skip =>
      cases c <;> simp [chkC] at hc
      all_goals
        simp only [exec,Option.some.injEq,Prod.mk.injEq] at h;obtain ⟨rfl,rfl,rfl⟩ := h
      · exact wp_skip (hQ a W wr own (Ext.refl _ _ _) s rfl)
      · exact wp_label (hQ a W wr own (Ext.refl _ _ _) s rfl)
    | scope b =>
      cases c <;> simp [chkC] at hc;simp only [exec] at h;refine wp_scope_straight (exec_sim hF k b _ hc h s (fun a1 W1 wr1 own1 e1 s1 d1 => ?_));have := hQ a1 W1 wr1 own1 e1 s1 d1;cases x <;> exact this
    | ret =>
      cases c <;> simp [chkC] at hc;simp only [exec,Option.some.injEq,Prod.mk.injEq] at h;obtain ⟨rfl,rfl,rfl⟩ := h;exact wp_ret (hQ a W wr own (Ext.refl _ _ _) s rfl)
    | exit j =>
      cases c <;> simp [chkC] at hc;subst hc;simp only [exec,Option.some.injEq,Prod.mk.injEq] at h;obtain ⟨rfl,rfl,rfl⟩ := h;exact wp_exit (hQ a W wr own (Ext.refl _ _ _) s rfl)
    | seq p q =>
      cases c <;> simp [chkC] at hc;simp only [exec] at h;apply wp_seq
      split at h
      · rename_i env1 H1 h1
        refine exec_sim hF k p _ hc.1 h1 s (fun a1 W1 wr1 own1 e1 s1 d1 => ?_);exact exec_sim hF k q _ hc.2 h s1 (fun a2 W2 wr2 own2 e2 s2 d2 => hQ a2 W2 wr2 own2 (e1.trans e2) s2 (d2.trans d1))
      · rename_i hne
        refine exec_sim hF k p _ hc.1 h s (fun a1 W1 wr1 own1 e1 s1 d1 => ?_);have hx : x ≠ .nrm := by rintro rfl; exact hne _ _ h
        have := hQ a1 W1 wr1 own1 e1 s1 d1;cases x with
        | nrm => exact absurd rfl hx
        | ret => exact this
        | ext i => exact this
    | cond d p q =>
      cases c <;> simp [chkC] at hc;simp only [exec] at h;have hv := opd_sim s.st.glob s.vals hc.1.1
      split at h
      · rename_i t ht
        rw [ht] at hv;refine wp_cond hv.bool_eq ?_;cases t with
        | true => exact exec_sim hF k p _ hc.1.2 h s hQ
        | false => exact exec_sim hF k q _ hc.2 h s hQ
      · cases h
    | block j p =>
      cases c <;> simp [chkC] at hc;obtain ⟨rfl,hc⟩ := hc;simp only [exec] at h;apply wp_block
      split at h
      · rename_i i1 env1 H1 h1
        refine exec_sim hF k p _ hc h1 s (fun a1 W1 wr1 own1 e1 s1 d1 => ?_)
        split at h
        · rename_i hi
          cases h;show Exit.inBlock _ Q (.exit i1) a1 W1;simp only [Exit.inBlock,hi,if_true];exact hQ a1 W1 wr1 own1 e1 s1 d1
        · rename_i hi
          cases h;show Exit.inBlock _ Q (.exit i1) a1 W1;simp only [Exit.inBlock,hi,if_false];exact hQ a1 W1 wr1 own1 e1 s1 d1
      · rename_i hne
        refine exec_sim hF k p _ hc h s (fun a1 W1 wr1 own1 e1 s1 d1 => ?_);have := hQ a1 W1 wr1 own1 e1 s1 d1;cases x with
        | nrm => exact this
        | ret => exact this
        | ext i => exact absurd h (hne i _ _)
    | loop p =>
      cases c <;> simp [chkC] at hc
      rename_i cb
      have key : ∀ (m : Nat),m ≤ k + 1 → ∀ {env env' : List V} {H H' : Heap} {x : X},exec F m (.loop p) env H = some (x,env',H') →
          ∃ n,∀ {wr : Nat → Prop} {W : World} {own : Own} {a : Act},Sim wr W own H env a.tmps → Post wr W own H' env' x a.defers Q → Code.rounds P cb Q n a W := by
        intro m
        induction m with
        | zero => intro _ env env' H H' x h; simp [exec] at h
        | succ m ih =>
          intro hm env env' H H' x h;have hb : ∀ {env env' : List V} {H H' : Heap} {x : X},exec F m p env H = some (x,env',H') →
              ∀ {wr : Nat → Prop} {W : World} {own : Own} {a : Act} {Q : Exit → Act → World → Prop},Sim wr W own H env a.tmps → Post wr W own H' env' x a.defers Q → cb.wp P Q a W :=
            fun h => exec_sim hF m p cb hc h
          simp only [exec] at h
          split at h
          · rename_i env1 H1 h1
            obtain ⟨n,hn⟩ := ih (by omega) h;refine ⟨n + 1,fun s hQ => ?_⟩;rw [rounds_succ];exact hb h1 s (fun a1 W1 wr1 own1 e1 s1 d1 => hn s1 (fun a2 W2 wr2 own2 e2 s2 d2 => hQ a2 W2 wr2 own2 (e1.trans e2) s2 (d2.trans d1)))
          · rename_i hne
            refine ⟨1,fun s hQ => ?_⟩;rw [rounds_succ];refine hb h s (fun a1 W1 wr1 own1 e1 s1 d1 => ?_);have := hQ a1 W1 wr1 own1 e1 s1 d1;cases x with
            | nrm => exact absurd h (hne _ _)
            | ret => exact this
            | ext i => exact this
      obtain ⟨n,hn⟩ := key (k + 1) (Nat.le_refl _) h;exact wp_loop_rounds n (hn s hQ)
    | rgd ls is =>
      cases c <;> simp [chkC] at hc
      rename_i id ops dr
      simp only [exec] at h
      split at h
      · rename_i tr h1
        split at h
        case isFalse => cases h
        rename_i hst
        simp only [Option.map_eq_some_iff,Prod.mk.injEq] at h;obtain ⟨⟨env1,H1⟩,hlast,rfl,rfl,rfl⟩ := h;obtain ⟨⟨rfl,hc1⟩,⟨hd1,hd2⟩,hd3⟩ := hc;refine wp_region_any hd3 ?_;have hgl : Gl W { W with drawn := W.drawn + 1 } := Gl.drawn W _;have s' : Sim wr { W with drawn := W.drawn + 1 } own H env a.tmps := ⟨s.st.gl hgl,fun t => (s.vals t).gl hgl,s.sz⟩;exact draw0_sim hF hc1 (chkDraw0_spec hd1 hd2) h1 hst hlast s' (fun a1 W1 wr1 own1 e1 s1 d1 => hQ a1 W1 wr1 own1 ((Ext.of_gl hgl).trans e1) s1 d1)
      · cases h
    | rgn is =>
      cases c <;> simp [chkC] at hc
      rename_i id ops dr
      simp only [exec] at h
      split at h
      · rename_i env1 H1 h1
        cases h;cases dr with
        | false => exact wp_region_list (exOps_sim hF _ _ hc.1 s h1 (fun a1 W1 wr1 own1 e1 s1 d1 => hQ a1 W1 wr1 own1 e1 s1 d1))
        | true =>
          have hd := hc.2.resolve_left (by simp);refine wp_region_any hd.2 ?_;have hgl : Gl W { W with drawn := W.drawn + 1 } := Gl.drawn W _;have s' : Sim wr { W with drawn := W.drawn + 1 } own H env a.tmps := ⟨s.st.gl hgl,fun t => (s.vals t).gl hgl,s.sz⟩;exact draw_sim hF hc.1 (chkDraw_spec hd.1) h1 s' (fun a1 W1 wr1 own1 e1 s1 d1 => hQ a1 W1 wr1 own1 ((Ext.of_gl hgl).trans e1) s1 d1)
      · cases h
def resTm : ResultVar → Option Nat
  | .tmp t => some t
  | _ => none
def resOk (P : Program) : List ResultVar → List (Nat × Option Sh) → Bool
  | [],[] => true
  | .tmp t :: rs,(u,none) :: ds => t == u && resOk P rs ds
  | .cell t ty :: rs,(u,some n) :: ds => t == u && chkSh P ty n && resOk P rs ds
  | _,_ => false
def chkF (P : Program) (f : Nat) (g : IFun) : Bool :=
  match P.funcs[f]? with
  | none => false
  | some fn => !(fn.name == "runtime.NumGoroutine") && fn.ntmps == g.ntmps && fn.nfree + fn.params.size ≤ g.ntmps && (match g.body.cells with | none => fn.results.toList.map resTm == g.res.map some | some ds => g.res.length == ds.length && resOk P fn.results.toList (g.res.zip ds)) &&
      (match fn.body with | some c => chkC P c g.body | none => false)
def resVal (tmps : Array Value) (res : List Nat) : Value :=
  match res with
  | [t] => tmps.getD t undef
  | ts => .tuple (ts.map fun t => tmps.getD t undef).toArray
theorem results_run {fn : Func} {res : List Nat} (h : fn.results.toList.map resTm = res.map some) (tmps : Array Value) (W : World) :
    (results fn tmps).run P W = .ok (resVal tmps res) W := by
  have hm : (fn.results.mapM fun r => (match r with | .tmp t => pure (tmps.getD t undef) | .cell a t => do loadVar t (← asAddr (tmps.getD a undef)) : Sem Value)).run P W =
      .ok (fn.results.map fun r => match r with | .tmp t => tmps.getD t undef | .cell _ _ => undef) W := by
    refine run_mapM_arr _ _ _ (fun r hr => ?_);cases r with
    | tmp t => rfl
    | cell a t =>
      exfalso
      have : resTm (.cell a t) ∈ fn.results.toList.map resTm := List.mem_map.mpr ⟨_,hr,rfl⟩;rw [h] at this
      simp [resTm] at this
  have hv : (fn.results.map fun r => match r with | .tmp t => tmps.getD t undef | .cell _ _ => undef) = (res.map fun t => tmps.getD t undef).toArray := by
    apply Array.ext';simp only [Array.toList_map];have key : ∀ (l : List ResultVar) (res : List Nat),l.map resTm = res.map some → l.map (fun r => match r with | .tmp t => tmps.getD t undef | .cell _ _ => undef) = res.map fun t => tmps.getD t undef := by
      intro l
      induction l with
      | nil => intro res h; cases res <;> simp at h ⊢
      | cons r l ih =>
        intro res h;cases res with
        | nil => simp at h
        | cons t ts =>
          simp only [List.map_cons,List.cons.injEq] at h ⊢;refine ⟨?_,ih ts h.2⟩;cases r with
          | tmp u => have := h.1; simp [resTm] at this; rw [this]
          | cell a u => have := h.1; simp [resTm] at this
    exact key _ _ h
  unfold results;rw [Sem.run_bind]
  erw [hm]
  rw [Result.andThen_ok,hv];cases res with
  | nil => rfl
  | cons t ts => cases ts <;> rfl
theorem resV_sim {wr : Nat → Prop} {W : World} {own : Own} {env : List V} {tmps : Array Value} (hv : ∀ t,VR wr W own (env.getD t .un) (tmps.getD t undef)) (res : List Nat) :
    VR wr W own (resV res env) (resVal tmps res) := by
  have tup : ∀ (ts : List Nat),VR wr W own (.tup (ts.map fun t => env.getD t .un)) (.tuple (ts.map fun t => tmps.getD t undef).toArray) := by
    intro ts;refine .tup (by simp) (fun j c hj => ?_);simp only [List.getElem?_map,Option.map_eq_some_iff] at hj;obtain ⟨t,ht,rfl⟩ := hj;have e : ((ts.map fun t => tmps.getD t undef).toArray)[j]? = some (tmps.getD t undef) := by simp [ht]
    rw [getD_of_some e]; exact hv t
  unfold resV resVal;cases res with
  | nil => exact tup []
  | cons t ts =>
    cases ts with
    | nil => exact hv t
    | cons u us => exact tup (t :: u :: us)
theorem load_asAddr {W : World} {t : TypeId} {p y : Value} (h : (Instr.loadAt t p).run P W = .ok y W) : (do loadVar t (← asAddr p) : Sem Value).run P W = .ok y W := by
  unfold Instr.loadAt at h;cases p with
  | pointer o =>
    cases o with
    | some a => exact h
    | none => simp [Instr.sureAddr] at h
  | _ => simp [Instr.sureAddr] at h
theorem run_mapM_rel {α β : Type} (f : α → Sem β) (W : World) : ∀ (l : List α) (ys : List β),l.length = ys.length → (∀ (j : Nat) (x : α) (y : β),l[j]? = some x → ys[j]? = some y → (f x).run P W = .ok y W) → (l.mapM f).run P W = .ok ys W
  | [],[],_,_ => rfl
  | x :: l,y :: ys,hl,h => by
    have h0 := h 0 x y rfl rfl;have ih := run_mapM_rel f W l ys (by simpa using hl) (fun j a b ha hb => h (j + 1) a b (by simpa using ha) (by simpa using hb))
    simp [List.mapM_cons,h0,ih]
  | [],_ :: _,hl,_ => by simp at hl
  | _ :: _,[],hl,_ => by simp at hl
theorem cells_run {wr : Nat → Prop} {W : World} {own : Own} {H : Heap} {env : List V} {tmps : Array Value} (s : Rd wr W own H) (hv : ∀ t,VR wr W own (env.getD t .un) (tmps.getD t undef)) :
    ∀ (rs : List ResultVar) (ds : List (Nat × Option Sh)),resOk P rs ds = true → ∀ (vs : List V),omap (ldR env H) ds = some vs →
      ∃ ys : List Value,rs.length = ys.length ∧ vs.length = ys.length ∧ (∀ (j : Nat) (r : ResultVar) (y : Value),rs[j]? = some r → ys[j]? = some y →
        ((match r with | .tmp t => pure (tmps.getD t undef) | .cell a t => do loadVar t (← asAddr (tmps.getD a undef)) : Sem Value)).run P W = .ok y W) ∧
        ∀ (j : Nat) (v : V) (y : Value),vs[j]? = some v → ys[j]? = some y → VR wr W own v y
  | [],[],_,vs,h => by
    simp only [omap,Option.some.injEq] at h;subst h;exact ⟨[],rfl,rfl,fun j r y h => by simp at h,fun j r y h => by simp at h⟩
  | .tmp t :: rs,(u,none) :: ds,hk,vs,h => by
    simp only [resOk,Bool.and_eq_true,beq_iff_eq] at hk;obtain ⟨rfl,hk⟩ := hk;simp only [omap,ldR] at h;cases h2 : omap (ldR env H) ds with
    | none => rw [h2] at h; simp at h
    | some ws =>
      rw [h2] at h;simp only [Option.some.injEq] at h;subst h;obtain ⟨ys,e1,e2,e3,e4⟩ := cells_run s hv rs ds hk ws h2;refine ⟨tmps.getD t undef :: ys,by simp [e1],by simp [e2],fun j r y hr hy => ?_,fun j v y hr hy => ?_⟩
      · cases j with
        | zero => simp only [List.getElem?_cons_zero,Option.some.injEq] at hr hy; subst hr; subst hy; rfl
        | succ j => exact e3 j r y (by simpa using hr) (by simpa using hy)
      · cases j with
        | zero => simp only [List.getElem?_cons_zero,Option.some.injEq] at hr hy; subst hr; subst hy; exact hv t
        | succ j => exact e4 j v y (by simpa using hr) (by simpa using hy)
  | .cell t ty :: rs,(u,some n) :: ds,hk,vs,h => by
    simp only [resOk,Bool.and_eq_true,beq_iff_eq] at hk;obtain ⟨⟨rfl,hs⟩,hk⟩ := hk;simp only [omap,ldR] at h;cases h1 : ldV H (env.getD t .un) n with
    | none => rw [h1] at h; simp at h
    | some w =>
      rw [h1] at h;cases h2 : omap (ldR env H) ds with
      | none => rw [h2] at h; simp at h
      | some ws =>
        rw [h2] at h;simp only [Option.some.injEq] at h;subst h;obtain ⟨ys,e1,e2,e3,e4⟩ := cells_run s hv rs ds hk ws h2;obtain ⟨y0,f1,f2⟩ := ld_run s hs (hv t) h1;refine ⟨y0 :: ys,by simp [e1],by simp [e2],fun j r y hr hy => ?_,fun j v y hr hy => ?_⟩
        · cases j with
          | zero => simp only [List.getElem?_cons_zero,Option.some.injEq] at hr hy; subst hr; subst hy; exact load_asAddr f1
          | succ j => exact e3 j r y (by simpa using hr) (by simpa using hy)
        · cases j with
          | zero => simp only [List.getElem?_cons_zero,Option.some.injEq] at hr hy; subst hr; subst hy; exact f2
          | succ j => exact e4 j v y (by simpa using hr) (by simpa using hy)
  | [],_ :: _,hk,_,_ => by simp [resOk] at hk
  | _ :: _,[],hk,_,_ => by simp [resOk] at hk
  | .tmp _ :: _,(_,some _) :: _,hk,_,_ => by simp [resOk] at hk
  | .cell _ _ :: _,(_,none) :: _,hk,_,_ => by simp [resOk] at hk
theorem resW_sim {wr : Nat → Prop} {W : World} {own : Own} {H : Heap} {env : List V} {tmps : Array Value} (s : Rd wr W own H) (hv : ∀ t,VR wr W own (env.getD t .un) (tmps.getD t undef)) {fn : Func} {cs : Option (List (Option Sh))} {res : List Nat}
    (hk : (match cs with | none => fn.results.toList.map resTm == res.map some | some ds => res.length == ds.length && resOk P fn.results.toList (res.zip ds)) = true) {r : V} (h : resW cs res env H = some r) :
    ∃ v,(results fn tmps).run P W = .ok v W ∧ VR wr W own r v := by
  cases cs with
  | none =>
    simp only [beq_iff_eq] at hk;simp only [resW,Option.some.injEq] at h;subst h;exact ⟨_,results_run (P := P) hk tmps W,resV_sim hv res⟩
  | some ds =>
    simp only [Bool.and_eq_true,beq_iff_eq] at hk;simp only [resW,Option.map_eq_some_iff] at h;obtain ⟨vs,h1,rfl⟩ := h;obtain ⟨ys,e1,e2,e3,e4⟩ := cells_run s hv _ _ hk.2 vs h1;have hm : (fn.results.mapM fun r => (match r with | .tmp t => pure (tmps.getD t undef) | .cell a t => do loadVar t (← asAddr (tmps.getD a undef)) : Sem Value)).run P W = .ok ys.toArray W := by
      have := run_mapM_rel (P := P) (fun r => (match r with | .tmp t => pure (tmps.getD t undef) | .cell a t => do loadVar t (← asAddr (tmps.getD a undef)) : Sem Value)) W fn.results.toList ys e1 e3;rw [Array.mapM_eq_mapM_toList];rw [Sem.run_map]
      erw [this]
      rfl
    unfold results;rw [Sem.run_bind]
    erw [hm]
    rw [Result.andThen_ok]
    clear hm e1 e3 h1
    match ys,vs,e2,e4 with
    | [],[],_,_ => exact ⟨_,rfl,.tup rfl (fun j c hj => by simp at hj)⟩
    | [y],[v],_,e4 => exact ⟨_,rfl,e4 0 v y rfl rfl⟩
    | y :: y1 :: ys,v :: v1 :: vs,e2,e4 =>
      refine ⟨_,rfl,.tup (by simpa using e2) (fun j c hj => ?_)⟩;have hjl := (List.getElem?_eq_some_iff.mp hj).1;have hjl2 : j < (y :: y1 :: ys).length := by rw [← e2]; exact hjl
      have e : ((y :: y1 :: ys).toArray)[j]? = some ((y :: y1 :: ys)[j]) := by simp [hjl2]
      rw [getD_of_some e]; exact e4 j c _ hj (List.getElem?_eq_getElem hjl2)
theorem exF_sim {T : Nat → Option IFun} (hT : ∀ f g,T f = some g → chkF P f g = true) : ∀ k,FSim P (exF T k)
  | 0 => fun f args H r H' h => by simp [exF] at h
  | k + 1 => fun f args H r H' h => by
    simp only [exF] at h
    split at h
    · cases h
    rename_i g hg
    have hc := hT f g hg;unfold chkF at hc;cases hfn : P.funcs[f]? with
    | none => rw [hfn] at hc; simp at hc
    | some fn =>
      rw [hfn] at hc;simp only [Bool.and_eq_true,Bool.not_eq_true',beq_iff_eq,decide_eq_true_eq] at hc;obtain ⟨⟨⟨⟨c1,c2⟩,c3⟩,c4⟩,c5⟩ := hc;cases hb : fn.body with
      | none => rw [hb] at c5; cases c5
      | some c =>
        rw [hb] at c5;refine ⟨⟨fn,hfn,c1,by simp [hb]⟩,?_⟩;intro wr W own vals s hl hargs;refine calls_of_wp hfn hb ?_;have hex : ∃ x env',exec (exF T k) k g.body (args ++ List.replicate (g.ntmps - args.length) .un) H = some (x,env',H') ∧ (x = .nrm ∨ x = .ret) ∧ resW g.body.cells g.res env' H' = some r := by
          split at h
          · rename_i env' H2 he
            simp only [Option.map_eq_some_iff,Prod.mk.injEq] at h;obtain ⟨w,h1,rfl,rfl⟩ := h;exact ⟨_,_,he,.inl rfl,h1⟩
          · rename_i env' H2 he
            simp only [Option.map_eq_some_iff,Prod.mk.injEq] at h;obtain ⟨w,h1,rfl,rfl⟩ := h;exact ⟨_,_,he,.inr rfl,h1⟩
          · cases h
        obtain ⟨x,env',he,hx,hres0⟩ := hex;refine exec_sim (exF_sim hT k) k g.body c c5 he (wr := wr) (own := own) ⟨s,fun t => ?_,?_⟩ ?_
        · rw [c2,hl];rcases Nat.lt_or_ge t args.length with h1 | h1
          · have e1 : (args ++ List.replicate (g.ntmps - vals.size) V.un).getD t .un = args[t] := by
              simp [List.getD,List.getElem?_append_left h1,h1]
            have h1' : t < vals.size := by omega
            have e2 : (vals ++ Array.replicate (g.ntmps - vals.size) undef).getD t undef = vals[t] := by
              apply getD_of_some; rw [Array.getElem?_append_left h1',Array.getElem?_eq_getElem h1']
            rw [e1,e2];have := hargs t args[t] (List.getElem?_eq_getElem h1)
            rwa [getD_of_some (Array.getElem?_eq_getElem h1')] at this
          · have e1 : (args ++ List.replicate (g.ntmps - vals.size) V.un).getD t .un = .un := by
              simp only [List.getD]; rw [List.getElem?_append_right h1,List.getElem?_replicate]; split <;> rfl
            rw [e1]; exact .un _
        · simp [c2]; omega
        · intro a' W' wr' own' e1 s1 d1;obtain ⟨w,hres,hvr⟩ := resW_sim (P := P) s1.st.toRd s1.vals c4 hres0;rcases hx with rfl | rfl
          · exact ⟨d1,_,hres,_,wr',own',rfl,e1,s1.st,hvr⟩
          · exact ⟨d1,_,hres,_,wr',own',rfl,e1,s1.st,hvr⟩
theorem tbl_ok {tbl : List (Nat × IFun)} (h : tbl.all (fun p => chkF P p.1 p.2) = true) : ∀ f g,(tbl.find? (·.1 == f)).map (·.2) = some g → chkF P f g = true := by
  intro f g hf;simp only [Option.map_eq_some_iff] at hf;obtain ⟨⟨a,b⟩,hf,rfl⟩ := hf;have h1 := List.find?_some hf;have h2 := List.mem_of_find?_eq_some hf;have := List.all_eq_true.mp h _ h2
  simp at h1
  subst h1;exact this
def yes (r : Option (V × Heap)) : Bool :=
  match r with
  | some (.bool true,_) => true
  | _ => false
end
end Go.Eng
