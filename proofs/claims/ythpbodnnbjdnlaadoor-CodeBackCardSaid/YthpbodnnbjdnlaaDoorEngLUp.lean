/- Functions of this seat, run on unknown values by the rules of the small machine (no condition beyond those stated). -/
import Derived.Test.YthpbodnnbjdnlaaDoorEngJUp
namespace Go.Eng
open Go
set_option linter.unusedSectionVars false
set_option linter.unusedVariables false
set_option linter.unusedSimpArgs false
variable [Glob]
def Opd.tm : Opd → List Nat
  | .t n => [n]
  | .c _ => []
def optTm : Option Opd → List Nat
  | none => []
  | some d => d.tm
def Kind.tm : Kind → List Nat
  | .mov x => x.tm
  | .pick c a b => c.tm ++ a.tm ++ b.tm
  | .bin _ _ x y => x.tm ++ y.tm
  | .un _ x => x.tm
  | .cvt _ x => x.tm
  | .s2b x => x.tm
  | .b2s x => x.tm
  | .ld x _ => x.tm
  | .st a x _ => a.tm ++ x.tm
  | .idxa x i _ _ => x.tm ++ i.tm
  | .idxs x i => x.tm ++ i.tm
  | .idxg x i _ _ _ => x.tm ++ i.tm
  | .fld x _ _ => x.tm
  | .flda x _ _ => x.tm
  | .box x _ => x.tm
  | .boxr x => x.tm
  | .alloc _ => []
  | .bld _ ps => ps.flatMap fun p => p.2.2.tm
  | .bsl _ _ _ _ ps _ => ps.flatMap fun p => p.2.tm
  | .mks _ _ _ _ l c => l.tm ++ c.tm
  | .slc x lo hi _ => x.tm ++ optTm lo ++ optTm hi
  | .app s x _ _ _ => s.tm ++ x.tm
  | .len _ x => x.tm
  | .call _ f args => f.tm ++ args.flatMap Opd.tm
  | .ext x _ => x.tm
  | .nchk x => x.tm
  | .mkf _ caps => caps.flatMap Opd.tm
  | .mkm _ first => first.flatMap Opd.tm
  | .mki _ x => x.tm
  | .fbin _ x y => x.tm ++ y.tm
  | .fneg x => x.tm
  | .i2f x => x.tm
  | .f2i _ x => x.tm
  | .xc _ x => x.tm
  | .ixb x c => x.tm ++ c.tm
  | .eqs _ _ x y => x.tm ++ y.tm
  | .idxp x i _ _ _ => x.tm ++ i.tm
  | .mnx _ x y => x.tm ++ y.tm
  | .clr x _ _ => x.tm
  | .cpy d s _ => d.tm ++ s.tm
  | .cln _ f x => f.tm ++ x.tm
  | .stuck => []
  | .mkmp => []
  | .slca x lo hi _ _ _ => x.tm ++ optTm lo ++ optTm hi
  | .slcm x lo hi mx _ => x.tm ++ optTm lo ++ (hi.tm ++ mx.tm)
  | .mget m k _ _ => m.tm ++ k.tm
  | .mset m k x => m.tm ++ k.tm ++ x.tm
  | .mdel m k => m.tm ++ k.tm
  | .mlen m => m.tm
def IOp.tm (o : IOp) : List Nat := o.k.tm ++ (match o.guard with | some (t,_) => [t] | none => [])
def Kind.usesH : Kind → Bool
  | .b2s _ | .ld .. | .call .. | .cln .. | .mget .. | .mlen .. | .slca .. => true
  | _ => false
def IOp.hp (o : IOp) : Bool := !o.k.quiet || (o.k.usesH && !o.lo)
def Agree (env env' : List V) (ts : List Nat) : Prop := ∀ t ∈ ts,env.getD t .un = env'.getD t .un
theorem ev_congr {env env' : List V} {d : Opd} (h : Agree env env' d.tm) : d.ev env = d.ev env' := by
  cases d with
  | t n => exact h n (by simp [Opd.tm])
  | c v => rfl
theorem Agree.sub {env env' : List V} {a b : List Nat} (h : Agree env env' a) (hs : ∀ t ∈ b,t ∈ a) : Agree env env' b := fun t ht => h t (hs t ht)
theorem map_congr_ev {env env' : List V} {l : List Opd} (h : Agree env env' (l.flatMap Opd.tm)) : l.map (·.ev env) = l.map (·.ev env') :=
  List.map_congr_left fun d hd => ev_congr (h.sub (fun t ht => List.mem_flatMap.mpr ⟨d,hd,ht⟩))
theorem opt_congr {env env' : List V} {o : Option Opd} (h : Agree env env' (optTm o)) : o.map (·.ev env) = o.map (·.ev env') := by
  cases o with
  | none => rfl
  | some d => simp only [Option.map_some]; rw [ev_congr h]
theorem evq_congr {F : FT} {env env' : List V} {H H' : Heap} {k : Kind} (h : Agree env env' k.tm) (hH : k.usesH = true → H = H') : evq F env H k = evq F env' H' k := by
  cases k <;> simp only [Kind.tm] at h <;> simp only [Kind.usesH,forall_const,reduceCtorEq,false_implies,Bool.false_eq_true] at hH <;> (try subst hH) <;> simp only [evq]
  case mov x => rw [ev_congr h]
  case pick c a b => rw [ev_congr (h.sub (b := c.tm) (by simp_all)),ev_congr (h.sub (b := a.tm) (by simp_all)),ev_congr (h.sub (b := b.tm) (by simp_all))]
  case bin cl op x y => rw [ev_congr (h.sub (b := x.tm) (by simp_all)),ev_congr (h.sub (b := y.tm) (by simp_all))]
  case un op x => rw [ev_congr h]
  case cvt k x => rw [ev_congr h]
  case b2s x => rw [ev_congr h]
  case ld x n => rw [ev_congr h]
  case idxa x i z ag => rw [ev_congr (h.sub (b := x.tm) (by simp_all)),ev_congr (h.sub (b := i.tm) (by simp_all))]
  case idxs x i => rw [ev_congr (h.sub (b := x.tm) (by simp_all)),ev_congr (h.sub (b := i.tm) (by simp_all))]
  case idxg x i len z n => rw [ev_congr (h.sub (b := x.tm) (by simp_all)),ev_congr (h.sub (b := i.tm) (by simp_all))]
  case fld x off n => rw [ev_congr h]
  case flda x off n => rw [ev_congr h]
  case box x fr => cases fr <;> simp only [evq]; rw [ev_congr h]
  case boxr x => rw [ev_congr h]
  case bld zero ps =>
    congr 1
    exact List.map_congr_left fun p hp => by rw [ev_congr (h.sub (fun t ht => List.mem_flatMap.mpr ⟨p,hp,ht⟩))]
  case bsl z ag n zero ps fr =>
    have : ps.map (fun p => (p.1,p.2.ev env)) = ps.map (fun p => (p.1,p.2.ev env')) :=
      List.map_congr_left fun p hp => by rw [ev_congr (h.sub (fun t ht => List.mem_flatMap.mpr ⟨p,hp,ht⟩))]
    cases fr <;> simp only [evq,this]
  case slc x lo hi z => rw [ev_congr (h.sub (b := x.tm) (by simp_all)),opt_congr (h.sub (b := optTm lo) (by simp_all)),opt_congr (h.sub (b := optTm hi) (by simp_all))]
  case len s x => rw [ev_congr h]
  case call hp f args =>
    cases hp <;> simp only [evq];rw [ev_congr (h.sub (b := f.tm) (by simp_all)),map_congr_ev (h.sub (b := args.flatMap Opd.tm) (by intro t ht; exact List.mem_append_right _ ht))]
  case mget m k z ok => rw [ev_congr (h.sub (b := m.tm) (by simp_all)),ev_congr (h.sub (b := k.tm) (by simp_all))]
  case mlen m => rw [ev_congr h]
  case slca x lo hi n z ag => rw [ev_congr (h.sub (b := x.tm) (by simp_all)),opt_congr (h.sub (b := optTm lo) (by simp_all)),opt_congr (h.sub (b := optTm hi) (by simp_all))]
  case slcm x lo hi mx z => rw [ev_congr (h.sub (b := x.tm) (by simp_all)),opt_congr (h.sub (b := optTm lo) (by simp_all)),ev_congr (h.sub (b := hi.tm) (by simp_all)),ev_congr (h.sub (b := mx.tm) (by simp_all))]
  case cln hp f x => cases hp <;> simp only [evq]; rw [ev_congr (h.sub (b := f.tm) (by simp_all)),ev_congr (h.sub (b := x.tm) (by simp_all))]
  case ext x i => rw [ev_congr h]
  case nchk x => rw [ev_congr h]
  case mkf f caps => rw [map_congr_ev h]
  case mkm f first => rw [map_congr_ev h]
  case mki t x => rw [ev_congr h]
  case fbin op x y => rw [ev_congr (h.sub (b := x.tm) (by simp_all)),ev_congr (h.sub (b := y.tm) (by simp_all))]
  case fneg x => rw [ev_congr h]
  case i2f x => rw [ev_congr h]
  case f2i k x => rw [ev_congr h]
  case xc e x => rw [ev_congr h]
  case ixb x c => rw [ev_congr (h.sub (b := x.tm) (by simp_all)),ev_congr (h.sub (b := c.tm) (by simp_all))]
  case eqs ne sig x y => rw [ev_congr (h.sub (b := x.tm) (by simp_all)),ev_congr (h.sub (b := y.tm) (by simp_all))]
  case idxp x i len z n => rw [ev_congr (h.sub (b := x.tm) (by simp_all)),ev_congr (h.sub (b := i.tm) (by simp_all))]
  case mnx mx x y => rw [ev_congr (h.sub (b := x.tm) (by simp_all)),ev_congr (h.sub (b := y.tm) (by simp_all))]
theorem evw_congr {F : FT} {env env' : List V} {H : Heap} {k : Kind} (h : Agree env env' k.tm) : evw F env H k = evw F env' H k := by
  cases k <;> simp only [Kind.tm] at h <;> simp only [evw]
  case clr x z zc => rw [ev_congr h]
  case cpy d s z => rw [ev_congr (h.sub (b := d.tm) (by simp_all)),ev_congr (h.sub (b := s.tm) (by simp_all))]
  case st a x n => rw [ev_congr (h.sub (b := a.tm) (by simp_all)),ev_congr (h.sub (b := x.tm) (by simp_all))]
  case box x fr => cases fr <;> simp only [evw]; rw [ev_congr h]
  case bsl z ag n zero ps fr =>
    have : ps.map (fun p => (p.1,p.2.ev env)) = ps.map (fun p => (p.1,p.2.ev env')) :=
      List.map_congr_left fun p hp => by rw [ev_congr (h.sub (fun t ht => List.mem_flatMap.mpr ⟨p,hp,ht⟩))]
    cases fr <;> simp only [evw,this]
  case mks z ag zc b l c => rw [ev_congr (h.sub (b := l.tm) (by simp_all)),ev_congr (h.sub (b := c.tm) (by simp_all))]
  case app s x z ag b => rw [ev_congr (h.sub (b := s.tm) (by simp_all)),ev_congr (h.sub (b := x.tm) (by simp_all))]
  case call hp f args =>
    cases hp <;> simp only [evw];rw [ev_congr (h.sub (b := f.tm) (by simp_all)),map_congr_ev (h.sub (b := args.flatMap Opd.tm) (by intro t ht; exact List.mem_append_right _ ht))]
  case s2b x => rw [ev_congr h]
  case mset m k x => rw [ev_congr (h.sub (b := m.tm) (by simp_all)),ev_congr (h.sub (b := k.tm) (by simp_all)),ev_congr (h.sub (b := x.tm) (by simp_all))]
  case mdel m k => rw [ev_congr (h.sub (b := m.tm) (by simp_all)),ev_congr (h.sub (b := k.tm) (by simp_all))]
  case cln hp f x => cases hp <;> simp only [evw]; rw [ev_congr (h.sub (b := f.tm) (by simp_all)),ev_congr (h.sub (b := x.tm) (by simp_all))]
theorem exOp_congr {F : FT} {o : IOp} {env env' env2 : List V} {H H' H2 : Heap} (h : exOp F o env H = some (env',H')) (ha : Agree env env2 o.tm) (hH : o.hp = true → H = H2) :
    ∃ v,env' = put env o.dst v ∧ (o.k.quiet = true → H' = H) ∧ exOp F o env2 H2 = some (put env2 o.dst v,if o.k.quiet then H2 else H') := by
  have hk : Agree env env2 o.k.tm := ha.sub (fun t ht => by simp [IOp.tm,ht]);have run : exK F o env H = some (env',H') → ∃ v,env' = put env o.dst v ∧ (o.k.quiet = true → H' = H) ∧ exK F o env2 H2 = some (put env2 o.dst v,if o.k.quiet then H2 else H') := by
    intro h;unfold exK at h ⊢
    by_cases hq : o.k.quiet = true
    · rw [if_pos hq] at h ⊢;simp only [Option.map_eq_some_iff,Prod.mk.injEq] at h;obtain ⟨v,hv,rfl,rfl⟩ := h;refine ⟨v,rfl,fun _ => rfl,?_⟩;rw [← evq_congr (F := F) (H := if o.lo then [] else H) (H' := if o.lo then [] else H2) hk ?_,hv]
      · simp [hq]
      · intro hu;cases hl : o.lo with
        | true => rfl
        | false => simp only [Bool.false_eq_true,if_false]; exact hH (by simp [IOp.hp,hu,hl])
    · rw [if_neg hq] at h ⊢;simp only [Option.map_eq_some_iff,Prod.mk.injEq] at h;obtain ⟨⟨v,H3⟩,hv,rfl,rfl⟩ := h;have e : H = H2 := hH (by simp [IOp.hp,hq]);subst e;refine ⟨v,rfl,fun h => absurd h hq,?_⟩;rw [← evw_congr (F := F) hk,hv]
      simp [hq]
  have skipc : ∀ {b : Bool},b = false → (o.k.quiet = false → H = H2) := fun _ hq => hH (by simp [IOp.hp,hq])
  unfold exOp at h ⊢;cases hg : o.guard with
  | none => rw [hg] at h; exact run h
  | some p =>
    obtain ⟨t,w⟩ := p;rw [hg] at h
    dsimp only at h ⊢
    have et : env.getD t .un = env2.getD t .un := ha t (by simp [IOp.tm,hg]);rw [← et];cases hv : env.getD t .un <;> rw [hv] at h <;> dsimp only at h ⊢ <;> (try (cases h; done))
    · cases h;refine ⟨.sk,rfl,fun _ => rfl,?_⟩
      by_cases hq : o.k.quiet = true
      · simp [hq]
      · have e : H = H2 := hH (by simp [IOp.hp,hq]);subst e; simp
    · rename_i b
      by_cases hb : b = w
      · rw [if_pos hb] at h ⊢; exact run h
      · rw [if_neg hb] at h ⊢;cases h;refine ⟨.sk,rfl,fun _ => rfl,?_⟩
        by_cases hq : o.k.quiet = true
        · simp [hq]
        · have e : H = H2 := hH (by simp [IOp.hp,hq]);subst e; simp
inductive Prec (ops : Array Oper) : Nat → Nat → Prop
  | edge {i : Nat} {o : Oper} {e : Edge} (ho : ops[i]? = some o) (he : e ∈ o.after.toList) (hb : Region.binds .any e = true) : Prec ops e.on i
  | step {i j : Nat} {o : Oper} {e : Edge} (ho : ops[i]? = some o) (he : e ∈ o.after.toList) (hb : Region.binds .any e = true) (h : Prec ops j e.on) : Prec ops j i
def befOf (acc : List Nat) (o : Oper) : Nat := o.after.toList.foldl (fun s e => if Region.binds .any e then s ||| 2 ^ e.on ||| acc.getD e.on 0 else s) 0
def befs : List Oper → List Nat → List Nat
  | [],acc => acc
  | o :: r,acc => befs r (acc ++ [befOf acc o])
theorem befOf_spec {ops : Array Oper} {acc : List Nat} {o : Oper} {i : Nat} (ho : ops[i]? = some o) (hacc : ∀ m j,(acc.getD m 0).testBit j = true → Prec ops j m) :
    ∀ j,(befOf acc o).testBit j = true → Prec ops j i := by
  have key : ∀ (l : List Edge) (s : Nat),(∀ e ∈ l,e ∈ o.after.toList) → (∀ j,s.testBit j = true → Prec ops j i) →
      ∀ j,(l.foldl (fun s e => if Region.binds .any e then s ||| 2 ^ e.on ||| acc.getD e.on 0 else s) s).testBit j = true → Prec ops j i := by
    intro l
    induction l with
    | nil => intro s _ hs j hj; exact hs j hj
    | cons e l ih =>
      intro s hl hs j hj;rw [List.foldl_cons] at hj;refine ih _ (fun x hx => hl x (by simp [hx])) ?_ j hj;intro j hj
      split at hj
      · rename_i hb
        simp only [Nat.testBit_or,Bool.or_eq_true,Nat.testBit_two_pow,decide_eq_true_eq] at hj;rcases hj with (hj | hj) | hj
        · exact hs j hj
        · subst hj; exact .edge ho (hl e (by simp)) hb
        · exact .step ho (hl e (by simp)) hb (hacc _ _ hj)
      · exact hs j hj
  exact key _ 0 (fun e he => he) (fun j hj => by simp at hj)
theorem befs_spec {ops : Array Oper} : ∀ (l : List Oper) (acc : List Nat),(∀ k o,l[k]? = some o → ops[acc.length + k]? = some o) → (∀ m j,(acc.getD m 0).testBit j = true → Prec ops j m) →
    ∀ m j,((befs l acc).getD m 0).testBit j = true → Prec ops j m
  | [],acc,_,h => h
  | o :: r,acc,hl,h => by
    refine befs_spec r (acc ++ [befOf acc o]) (fun k p hk => ?_) (fun m j hj => ?_)
    · have := hl (k + 1) p (by simpa using hk)
      simpa [Nat.add_assoc,Nat.add_comm 1 k] using this
    · have ho : ops[acc.length]? = some o := by simpa using hl 0 o (by simp)
      by_cases hm : m < acc.length
      · have e : (acc ++ [befOf acc o]).getD m 0 = acc.getD m 0 := by simp only [List.getD]; rw [List.getElem?_append_left hm]
        rw [e] at hj; exact h m j hj
      · by_cases hm2 : m = acc.length
        · subst hm2;have e : (acc ++ [befOf acc o]).getD acc.length 0 = befOf acc o := by simp [List.getD]
          rw [e] at hj;exact befOf_spec ho h j hj
        · have e : (acc ++ [befOf acc o]).getD m 0 = 0 := by
            simp only [List.getD]; rw [List.getElem?_eq_none (by simp; omega)]; rfl
          rw [e] at hj; simp at hj
def allPairs (n : Nat) (f : Nat → Nat → Bool) : Bool := (List.range n).all fun i => (List.range n).all fun j => f i j
def chkDraw (ops : Array Oper) (is : List IOp) : Bool :=
  let bs := befs ops.toList []
  let pre := fun j i => (bs.getD i 0).testBit j
  (List.range ops.size).all (fun i => match ops[i]? with | some o => o.after.toList.all (fun e => !Region.binds .any e || decide (e.on < i)) | none => true) &&
  allPairs is.length (fun i j => i == j || (match is[i]?,is[j]? with
    | some a,some b => (match b.dst with | some t => a.dst != some t && (!a.tm.contains t || pre j i || pre i j) | none => true) &&
        (a.k.quiet || !b.hp || pre j i || pre i j)
    | _,_ => true))
structure DrawOk (ops : Array Oper) (is : List IOp) : Prop where
  edge : ∀ i o e,ops[i]? = some o → e ∈ o.after.toList → Region.binds .any e = true → e.on < i
  dst : ∀ (i j t : Nat) (a b : IOp),is[i]? = some a → is[j]? = some b → a.dst = some t → b.dst = some t → i = j
  nam : ∀ (i j t : Nat) (a b : IOp),i ≠ j → is[i]? = some a → is[j]? = some b → b.dst = some t → t ∈ a.tm → Prec ops j i ∨ Prec ops i j
  wrt : ∀ (i j : Nat) (a b : IOp),i ≠ j → is[i]? = some a → is[j]? = some b → a.k.quiet = false → b.hp = true → Prec ops j i ∨ Prec ops i j
theorem chkDraw_spec {ops : Array Oper} {is : List IOp} (h : chkDraw ops is = true) : DrawOk ops is := by
  simp only [chkDraw,allPairs,Bool.and_eq_true,List.all_eq_true,List.mem_range] at h;obtain ⟨h1,h2⟩ := h;have hp := befs_spec (ops := ops) ops.toList [] (fun k o hk => by simpa using hk) (fun m j hj => by simp at hj);have pair : ∀ (i j : Nat) (a b : IOp),i ≠ j → is[i]? = some a → is[j]? = some b →
      (match b.dst with | some t => a.dst ≠ some t ∧ (t ∈ a.tm → Prec ops j i ∨ Prec ops i j) | none => True) ∧ (a.k.quiet = false → b.hp = true → Prec ops j i ∨ Prec ops i j) := by
    intro i j a b hij ha hb;have := h2 i (List.getElem?_eq_some_iff.mp ha).1 j (List.getElem?_eq_some_iff.mp hb).1;rw [ha,hb] at this;simp only [Bool.or_eq_true,beq_iff_eq,hij,false_or,Bool.and_eq_true,Bool.not_eq_true'] at this;obtain ⟨t1,t2⟩ := this
    constructor
    · cases hd : b.dst with
      | none => trivial
      | some t =>
        rw [hd] at t1;simp only [Bool.and_eq_true,bne_iff_ne,ne_eq,Bool.or_eq_true,Bool.not_eq_true'] at t1;refine ⟨t1.1,fun ht => ?_⟩;rcases t1.2 with (h | h) | h
        · exfalso; simp at h; exact h ht
        · exact .inl (hp _ _ h)
        · exact .inr (hp _ _ h)
    · intro hq hb';rcases t2 with ((h | h) | h) | h
      · rw [hq] at h; cases h
      · rw [hb'] at h; cases h
      · exact .inl (hp _ _ h)
      · exact .inr (hp _ _ h)
  refine ⟨?_,?_,?_,?_⟩
  · intro i o e ho he hb;have hlt : i < ops.size := (Array.getElem?_eq_some_iff.mp ho).1;have := h1 i hlt;rw [ho] at this;simp only [List.all_eq_true,Bool.or_eq_true,Bool.not_eq_true',decide_eq_true_eq] at this;rcases this e he with h | h
    · rw [hb] at h; cases h
    · exact h
  · intro i j t a b ha hb hda hdb
    by_cases hij : i = j
    · exact hij
    · have := (pair i j a b hij ha hb).1;rw [hdb] at this;exact absurd hda this.1
  · intro i j t a b hij ha hb hdb ht;have := (pair i j a b hij ha hb).1;rw [hdb] at this;exact this.2 ht
  · intro i j a b hij ha hb;exact (pair i j a b hij ha hb).2
end Go.Eng
namespace Go.Eng
open Go
set_option linter.unusedSectionVars false
set_option linter.unusedVariables false
set_option linter.unusedSimpArgs false
variable [Glob]
theorem exOps_trace {F : FT} : ∀ (is : List IOp) {env envn : List V} {H Hn : Heap},exOps F is env H = some (envn,Hn) →
    ∃ (E : Nat → List V) (Hs : Nat → Heap),E 0 = env ∧ Hs 0 = H ∧ E is.length = envn ∧ Hs is.length = Hn ∧ ∀ (i : Nat) (o : IOp),is[i]? = some o → exOp F o (E i) (Hs i) = some (E (i + 1),Hs (i + 1))
  | [],env,envn,H,Hn,h => by
    simp only [exOps,Option.some.injEq,Prod.mk.injEq] at h;obtain ⟨rfl,rfl⟩ := h;exact ⟨fun _ => env,fun _ => H,rfl,rfl,rfl,rfl,fun i o h => by simp at h⟩
  | o :: r,env,envn,H,Hn,h => by
    simp only [exOps] at h
    split at h
    · rename_i env1 H1 h1
      obtain ⟨E,Hs,e1,e2,e3,e4,e5⟩ := exOps_trace r h;refine ⟨fun i => match i with | 0 => env | i + 1 => E i,fun i => match i with | 0 => H | i + 1 => Hs i,rfl,rfl,e3,e4,fun i p hp => ?_⟩;cases i with
      | zero => simp at hp; subst hp; show exOp F o env H = some (E 0,Hs 0); rw [e1,e2]; exact h1
      | succ i => exact e5 i p (by simpa using hp)
    · cases h
section
variable {P : Program} {F : FT} {ops : Array Oper} {is : List IOp}
theorem draw_sim (hF : FSim P F) {Q : Exit → Act → World → Prop} (hc : all2 (chkOp P ops) ops.toList is = true) (hd : DrawOk ops is) {env0 envn : List V} {H0 Hn : Heap}
    (hex : exOps F is env0 H0 = some (envn,Hn)) {wr0 : Nat → Prop} {W0 : World} {own0' : Own} {a0 : Act} (s0 : Sim wr0 W0 own0' H0 env0 a0.tmps)
    (hQ : ∀ a' W' wr' own',Ext wr0 W0 own0' wr' W' own' → Sim wr' W' own' Hn envn a'.tmps → a'.defers = a0.defers → Q .normal a' W') :
    wpAny P .any ops Q ops.size (Array.replicate ops.size false) a0 W0 := by
  obtain ⟨E,Hs,t1,t2,t3,t4,t5⟩ := exOps_trace is hex;obtain ⟨c1,c2⟩ := all2_get hc;have hlen : is.length = ops.size := by simpa using c1.symm
  have shape : ∀ (i : Nat) (o : IOp),is[i]? = some o → ∃ v,E (i + 1) = put (E i) o.dst v ∧ (o.k.quiet = true → Hs (i + 1) = Hs i) := by
    intro i o ho;obtain ⟨v,h1,h2,_⟩ := exOp_congr (t5 i o ho) (fun t _ => rfl) (fun _ => rfl);exact ⟨v,h1,h2⟩
  have lenE : ∀ i,i ≤ is.length → (E i).length = env0.length := by
    intro i
    induction i with
    | zero => intro _; rw [t1]
    | succ i ih =>
      intro hi;obtain ⟨v,h1,_⟩ := shape i is[i] (List.getElem?_eq_getElem (by omega));rw [h1,← ih (by omega)];cases is[i].dst <;> simp [put]
  have envAt : ∀ (t : Nat),(∀ (j : Nat) (o : IOp),is[j]? = some o → o.dst ≠ some t) → ∀ i,i ≤ is.length → (E i).getD t .un = env0.getD t .un := by
    intro t ht i
    induction i with
    | zero => intro _; rw [t1]
    | succ i ih =>
      intro hi;have ho := List.getElem?_eq_getElem (l := is) (i := i) (by omega);obtain ⟨v,h1,_⟩ := shape i _ ho;rw [h1,← ih (by omega)];have := ht i _ ho;cases hdd : is[i].dst with
      | none => rfl
      | some d =>
        have hne : d ≠ t := by rintro rfl; exact this hdd
        simp [put,List.getD,List.getElem?_set_ne hne]
  have envAt2 : ∀ (t j : Nat) (o : IOp),is[j]? = some o → o.dst = some t → ∀ i,i ≤ is.length → (E i).getD t .un = if j < i then envn.getD t .un else env0.getD t .un := by
    intro t j o hj hdj;have hjl : j < is.length := (List.getElem?_eq_some_iff.mp hj).1;have other : ∀ i,i < is.length → i ≠ j → (E (i + 1)).getD t .un = (E i).getD t .un := by
      intro i hi hij;have ho := List.getElem?_eq_getElem (l := is) hi;obtain ⟨v,h1,_⟩ := shape i _ ho;rw [h1];cases hdd : is[i].dst with
      | none => rfl
      | some d =>
        have hne : d ≠ t := by rintro rfl; exact hij (hd.dst i j d _ _ ho hj hdd hdj)
        simp [put,List.getD,List.getElem?_set_ne hne]
    have low : ∀ i,i ≤ j → (E i).getD t .un = env0.getD t .un := by
      intro i
      induction i with
      | zero => intro _; rw [t1]
      | succ i ih => intro hi; rw [other i (by omega) (by omega),ih (by omega)]
    have high : ∀ d,j + 1 + d ≤ is.length → (E (j + 1 + d)).getD t .un = (E (j + 1)).getD t .un := by
      intro d
      induction d with
      | zero => intro _; rfl
      | succ d ih => intro hi; rw [show j + 1 + (d + 1) = (j + 1 + d) + 1 by omega,other (j + 1 + d) (by omega) (by omega),ih (by omega)]
    intro i hi
    split
    · rename_i hji
      have e1 := high (i - (j + 1)) (by omega);have e2 := high (is.length - (j + 1)) (by omega);rw [show j + 1 + (i - (j + 1)) = i by omega] at e1;rw [show j + 1 + (is.length - (j + 1)) = is.length by omega,t3] at e2;rw [e1,e2]
    · exact low i (by omega)
  have hsame : ∀ d i,i + d ≤ is.length → (∀ (k : Nat) (o : IOp),i ≤ k → k < i + d → is[k]? = some o → o.k.quiet = true) → Hs (i + d) = Hs i := by
    intro d
    induction d with
    | zero => intro i _ _; rfl
    | succ d ih =>
      intro i hi hq;have ho := List.getElem?_eq_getElem (l := is) (i := i + d) (by omega);obtain ⟨v,_,h2⟩ := shape (i + d) _ ho;rw [show i + (d + 1) = (i + d) + 1 by omega,h2 (hq _ _ (by omega) (by omega) ho),ih i (by omega) (fun k o h1 h2 => hq k o h1 (by omega))]
  let listedP := fun (l : Array Bool) (i : Nat) => l.getD i false = true
  suffices key : ∀ (fuel : Nat) (l : Array Bool) (a : Act) (W : World) (wr : Nat → Prop) (own : Own) (p : Nat),l.size = ops.size → Ext wr0 W0 own0' wr W own →
      (∀ (i : Nat) (o : Oper) (e : Edge),l.getD i false = true → ops[i]? = some o → e ∈ o.after.toList → Region.binds .any e = true → l.getD e.on false = true) →
      p ≤ is.length → (∀ (w : Nat) (o : IOp),is[w]? = some o → o.k.quiet = false → (l.getD w false = true ↔ w < p)) →
      St wr W own (Hs p) → env0.length ≤ a.tmps.size → a.defers = a0.defers →
      (∀ (t : Nat),(∀ (j : Nat) (o : IOp),is[j]? = some o → o.dst ≠ some t) → VR wr W own (env0.getD t .un) (a.tmps.getD t undef)) →
      (∀ (t j : Nat) (o : IOp),is[j]? = some o → o.dst = some t → VR wr W own (if l.getD j false = true then envn.getD t .un else env0.getD t .un) (a.tmps.getD t undef)) →
      ((List.range ops.size).filter (fun i => !l.getD i false)).length ≤ fuel →
      wpAny P .any ops Q fuel l a W by
    refine key ops.size _ a0 W0 wr0 own0' 0 (by simp) (Ext.refl _ _ _) ?_ (Nat.zero_le _) ?_ (by rw [t2]; exact s0.st) s0.sz rfl (fun t _ => s0.vals t) ?_ ?_
    · intro i o e hl;have : (Array.replicate ops.size false).getD i false = false := by
        simp only [Array.getD_eq_getD_getElem?,Array.getElem?_replicate]; split <;> rfl
      rw [this] at hl; cases hl
    · intro w o _ _;have : (Array.replicate ops.size false).getD w false = false := by
        simp only [Array.getD_eq_getD_getElem?,Array.getElem?_replicate]; split <;> rfl
      rw [this]; simp
    · intro t j o _ _;have : (Array.replicate ops.size false).getD j false = false := by
        simp only [Array.getD_eq_getD_getElem?,Array.getElem?_replicate]; split <;> rfl
      rw [this]; simpa using s0.vals t
    · exact Nat.le_trans (List.length_filter_le _ _) (by simp)
  have precLt : ∀ j i,Prec ops j i → j < i := by
    intro j i h
    induction h with
    | edge ho he hb => exact hd.edge _ _ _ ho he hb
    | step ho he hb h ih => exact Nat.lt_trans ih (hd.edge _ _ _ ho he hb)
  have precIn : ∀ (l : Array Bool),(∀ (i : Nat) (o : Oper) (e : Edge),l.getD i false = true → ops[i]? = some o → e ∈ o.after.toList → Region.binds .any e = true → l.getD e.on false = true) →
      ∀ j i,Prec ops j i → (∀ (o : Oper) (e : Edge),ops[i]? = some o → e ∈ o.after.toList → Region.binds .any e = true → l.getD e.on false = true) → l.getD j false = true := by
    intro l hcl j i h
    induction h with
    | edge ho he hb => intro hi; exact hi _ _ ho he hb
    | step ho he hb h ih => intro hi; exact ih (fun o e h1 h2 h3 => hcl _ o e (hi _ _ ho he hb) h1 h2 h3)
  have heap_eq : ∀ p q,p ≤ is.length → q ≤ is.length → (∀ (w : Nat) (o : IOp),is[w]? = some o → o.k.quiet = false → (w < p ↔ w < q)) → Hs p = Hs q := by
    have one : ∀ p q,p ≤ q → q ≤ is.length → (∀ (w : Nat) (o : IOp),is[w]? = some o → o.k.quiet = false → (w < p ↔ w < q)) → Hs q = Hs p := by
      intro p q hpq hq hw;have := hsame (q - p) p (by omega) (fun k o h1 h2 hk => by
        cases hqk : o.k.quiet with
        | true => rfl
        | false => have := hw k o hk hqk; omega)
      rwa [show p + (q - p) = q by omega] at this
    intro p q hp hq hw;rcases Nat.le_total p q with h | h
    · exact (one p q h hq hw).symm
    · exact one q p h hp (fun w o h1 h2 => (hw w o h1 h2).symm)
  have finish : ∀ (l : Array Bool) (a : Act) (W : World) (wr : Nat → Prop) (own : Own) (p : Nat),Ext wr0 W0 own0' wr W own →
      p ≤ is.length → (∀ (w : Nat) (o : IOp),is[w]? = some o → o.k.quiet = false → (l.getD w false = true ↔ w < p)) →
      St wr W own (Hs p) → env0.length ≤ a.tmps.size → a.defers = a0.defers →
      (∀ (t : Nat),(∀ (j : Nat) (o : IOp),is[j]? = some o → o.dst ≠ some t) → VR wr W own (env0.getD t .un) (a.tmps.getD t undef)) →
      (∀ (t j : Nat) (o : IOp),is[j]? = some o → o.dst = some t → VR wr W own (if l.getD j false = true then envn.getD t .un else env0.getD t .un) (a.tmps.getD t undef)) →
      (∀ i,i < ops.size → l.getD i false = true) → Q .normal a W := by
    intro l a W wr own p hext hp hst hs hsz hdf hv1 hv2 hall;refine hQ a W wr own hext ⟨?_,?_,?_⟩ hdf
    · have e : Hs p = Hs is.length := heap_eq p is.length hp (Nat.le_refl _) (fun w o hw hq => by
        have hwl : w < is.length := (List.getElem?_eq_some_iff.mp hw).1;have := hst w o hw hq;rw [hall w (by omega)] at this
        simp at this; omega)
      rw [← t4,← e]; exact hs
    · intro t
      by_cases ht : ∃ (j : Nat) (o : IOp),is[j]? = some o ∧ o.dst = some t
      · obtain ⟨j,o,hj,hdj⟩ := ht;have := hv2 t j o hj hdj
        rwa [if_pos (hall j (by rw [← hlen]; exact (List.getElem?_eq_some_iff.mp hj).1))] at this
      · have hno : ∀ (j : Nat) (o : IOp),is[j]? = some o → o.dst ≠ some t := fun j o hj hdj => ht ⟨j,o,hj,hdj⟩
        have := envAt t hno is.length (Nat.le_refl _);rw [t3] at this;rw [this]; exact hv1 t hno
    · have := lenE is.length (Nat.le_refl _);rw [t3] at this; rw [this]; exact hsz
  have allOf : ∀ (l : Array Bool),l.size = ops.size → Region.ready .any ops l = [] → ∀ i,i < ops.size → l.getD i false = true := by
    intro l hl hr i
    induction i using Nat.strongRecOn with
    | _ i ih =>
      intro hi;cases hli : l.getD i false with
      | true => rfl
      | false =>
        exfalso
        have hm : i ∈ Region.ready .any ops l := by
          rw [mem_ready];refine ⟨?_,ops[i],by simp,fun e he hb => ?_⟩
          · simp only [Array.getD_eq_getD_getElem?] at hli ⊢;have : i < l.size := by omega
            simp [this] at hli ⊢; exact hli
          · have hlt := hd.edge i ops[i] e (by simp) (by simpa using he) hb;exact ih e.on hlt (by omega)
        rw [hr] at hm; simp at hm
  intro fuel
  induction fuel with
  | zero =>
    intro l a W wr own p hl hext hcl hp hst hs hsz hdf hv1 hv2 hm;have hall : ∀ i,i < ops.size → l.getD i false = true := by
      intro i hi;have hnil : (List.range ops.size).filter (fun i => !l.getD i false) = [] := List.eq_nil_of_length_eq_zero (by omega);have := List.filter_eq_nil_iff.mp hnil i (by simpa using hi)
      simpa using this
    refine ⟨?_,finish l a W wr own p hext hp hst hs hsz hdf hv1 hv2 hall⟩;apply List.eq_nil_iff_forall_not_mem.mpr;intro i hi;rw [mem_ready] at hi;obtain ⟨h0,o,ho,_⟩ := hi;have hlt : i < ops.size := (Array.getElem?_eq_some_iff.mp ho).1;have := hall i hlt;simp only [Array.getD_eq_getD_getElem?] at this h0;have hi' : i < l.size := by omega
    simp [hi'] at this h0
    rw [this] at h0; cases h0
  | succ fuel ih =>
    intro l a W wr own p hl hext hcl hp hst hs hsz hdf hv1 hv2 hm;refine ⟨fun hr => finish l a W wr own p hext hp hst hs hsz hdf hv1 hv2 (allOf l hl hr),?_⟩;intro i hi;rw [mem_ready] at hi;obtain ⟨hi0,o,ho,hpre⟩ := hi;have hilt : i < ops.size := (Array.getElem?_eq_some_iff.mp ho).1;have hio := List.getElem?_eq_getElem (l := is) (i := i) (by omega)
    generalize hgen : is[i] = io at hio
    have hli : l.getD i false = false := by
      simp only [Array.getD_eq_getD_getElem?] at hi0 ⊢;have hi' : i < l.size := by omega
      simp [hi'] at hi0 ⊢; exact hi0
    have hpre' : ∀ (o' : Oper) (e : Edge),ops[i]? = some o' → e ∈ o'.after.toList → Region.binds .any e = true → l.getD e.on false = true := by
      intro o' e ho' he hb;rw [ho] at ho'; cases ho';exact hpre e (by simpa using he) hb
    have cmpr : ∀ j,j ≠ i → Prec ops j i ∨ Prec ops i j → (l.getD j false = true ↔ j < i) := by
      intro j hji hc;rcases hc with hc | hc
      · have h1 := precLt _ _ hc;have h2 := precIn l hcl _ _ hc hpre'
        simp [h1,h2]
      · have h1 := precLt _ _ hc
        constructor
        · intro hlj;have := precIn l hcl _ _ hc (fun o' e h1 h2 h3 => hcl j o' e hlj h1 h2 h3);rw [hli] at this; cases this
        · intro h; omega
    let val : Nat → V := fun t => @ite _ (∃ (j : Nat) (o : IOp),is[j]? = some o ∧ o.dst = some t ∧ l.getD j false = true) (Classical.propDecidable _) (envn.getD t .un) (env0.getD t .un)
    have val1 : ∀ t,(∀ (j : Nat) (o : IOp),is[j]? = some o → o.dst ≠ some t) → val t = env0.getD t .un := by
      intro t ht;simp only [val];rw [if_neg];rintro ⟨j,o,hj,hdj,_⟩;exact ht j o hj hdj
    have val2 : ∀ (t j : Nat) (o : IOp),is[j]? = some o → o.dst = some t → val t = if l.getD j false = true then envn.getD t .un else env0.getD t .un := by
      intro t j o hj hdj;simp only [val]
      by_cases hlj : l.getD j false = true
      · rw [if_pos hlj,if_pos ⟨j,o,hj,hdj,hlj⟩]
      · rw [if_neg hlj,if_neg];rintro ⟨j',o',hj',hdj',hlj'⟩;have := hd.dst _ _ _ _ _ hj hj' hdj hdj';subst this;exact hlj hlj'
    let ES := (List.range env0.length).map val
    have hlenn : envn.length = env0.length := by have := lenE is.length (Nat.le_refl _); rwa [t3] at this
    have valout : ∀ t,env0.length ≤ t → val t = .un := by
      intro t ht;simp only [val]
      split
      · simp [List.getD,List.getElem?_eq_none (show envn.length ≤ t by omega)]
      · simp [List.getD,List.getElem?_eq_none ht]
    have ESget : ∀ t,ES.getD t .un = val t := by
      intro t
      by_cases ht : t < env0.length
      · simp [ES,List.getD,ht]
      · rw [valout t (by omega)]
        simp [ES,List.getD,ht]
    have ESvr : ∀ t,VR wr W own (ES.getD t .un) (a.tmps.getD t undef) := by
      intro t;rw [ESget]
      by_cases ht : ∃ (j : Nat) (o : IOp),is[j]? = some o ∧ o.dst = some t
      · obtain ⟨j,o,hj,hdj⟩ := ht;rw [val2 t j o hj hdj]; exact hv2 t j o hj hdj
      · have hno : ∀ (j : Nat) (o : IOp),is[j]? = some o → o.dst ≠ some t := fun j o hj hdj => ht ⟨j,o,hj,hdj⟩
        rw [val1 t hno]; exact hv1 t hno
    have hile : i ≤ is.length := by omega
    have hagree : Agree (E i) ES io.tm := by
      intro t ht;rw [ESget]
      by_cases htw : ∃ (j : Nat) (o : IOp),is[j]? = some o ∧ o.dst = some t
      · obtain ⟨j,o',hj,hdj⟩ := htw;rw [val2 t j o' hj hdj,envAt2 t j o' hj hdj i hile]
        by_cases hji : j = i
        · subst hji; simp [hli]
        · have := cmpr j hji (hd.nam i j t io o' (Ne.symm hji) hio hj hdj ht)
          by_cases hji' : j < i
          · rw [if_pos hji',if_pos (this.mpr hji')]
          · rw [if_neg hji',if_neg (fun h => hji' (this.mp h))]
      · have hno : ∀ (j : Nat) (o : IOp),is[j]? = some o → o.dst ≠ some t := fun j o hj hdj => htw ⟨j,o,hj,hdj⟩
        rw [val1 t hno,envAt t hno i hile]
    have hwr : io.hp = true → ∀ (w : Nat) (o' : IOp),is[w]? = some o' → o'.k.quiet = false → (w < p ↔ w < i) := by
      intro hhp w o' hw hq
      by_cases hwi : w = i
      · subst hwi;have := hst w o' hw hq;rw [hli] at this
        simp at this; omega
      · have h1 := hst w o' hw hq;have h2 := cmpr w hwi ((hd.wrt w i o' io hwi hw hio hq hhp).symm);rw [← h1,h2]
    have hheap : io.hp = true → Hs i = Hs p := fun hhp => heap_eq i p hile hp (fun w o' hw hq => (hwr hhp w o' hw hq).symm)
    obtain ⟨v,e1,e2,e3⟩ := exOp_congr (t5 i io hio) hagree hheap;have hchk := c2 i o io (by simpa using ho) hio;have hsim : Sim wr W own (Hs p) ES a.tmps := ⟨hs,ESvr,by simpa [ES] using hsz⟩;unfold wpOp;rw [ho];refine exOp_sim hF hchk hsim e3 (fun a' W' wr' own' x1 x2 x3 => ?_);have hsetlen : (put ES io.dst v).length = env0.length := by cases io.dst <;> simp [put,ES]
    have hpn : i < is.length := by omega
    refine ih (l.setIfInBounds i true) a' W' wr' own' (if io.k.quiet then p else i + 1) (by simpa using hl) (hext.trans x1) ?_ (by split <;> omega) ?_ ?_ (by have := x2.sz; omega) (by rw [x3,hdf]) ?_ ?_ ?_
    · intro k o' e hk ho' he hb
      by_cases hki : k = i
      · subst hki; exact getD_set_true (hpre' o' e ho' he hb)
      · rw [getD_set_ne false (Ne.symm hki)] at hk;exact getD_set_true (hcl k o' e hk ho' he hb)
    · intro w o' hw hq;cases hqi : io.k.quiet with
      | true =>
        have hwi : w ≠ i := by rintro rfl; rw [hio] at hw; cases hw; rw [hqi] at hq; cases hq
        rw [getD_set_ne false (Ne.symm hwi)]
        simpa using hst w o' hw hq
      | false =>
        simp only [Bool.false_eq_true,if_false]
        by_cases hwi : w = i
        · subst hwi;have hi' : w < l.size := by omega
          simp [Array.getD_eq_getD_getElem?,hi']
        · rw [getD_set_ne false (Ne.symm hwi),hst w o' hw hq,hwr (by simp [IOp.hp,hqi]) w o' hw hq]
          omega
    · have := x2.st;cases hqi : io.k.quiet with
      | true => rw [hqi] at this; simpa using this
      | false => rw [hqi] at this; simpa using this
    · intro t ht;have hne : io.dst ≠ some t := ht i io hio;have := x2.vals t;have e : (put ES io.dst v).getD t .un = ES.getD t .un := by
        cases hdd : io.dst with
        | none => rfl
        | some d =>
          have hdt : d ≠ t := by rintro rfl; exact hne hdd
          simp [put,List.getD,List.getElem?_set_ne hdt]
      rw [e,ESget,val1 t ht] at this;exact this
    · intro t j o' hj hdj;have := x2.vals t
      by_cases hji : j = i
      · subst hji;rw [hio] at hj; cases hj;have hi' : j < l.size := by omega
        have hlj : (l.setIfInBounds j true).getD j false = true := by simp [Array.getD_eq_getD_getElem?,hi']
        rw [if_pos hlj];have q1 := envAt2 t j io hio hdj (j + 1) (by omega);rw [if_pos (Nat.lt_succ_self j),e1] at q1;have q2 : (put ES io.dst v).getD t .un = (put (E j) io.dst v).getD t .un := by
          rw [hdj];simp only [put,List.getD];have l1 : ES.length = env0.length := by simp [ES]
          have l2 := lenE j (by omega)
          by_cases ht : t < env0.length
          · rw [List.getElem?_set_self (by omega),List.getElem?_set_self (by omega)]
          · rw [List.getElem?_eq_none (by simp; omega),List.getElem?_eq_none (by simp; omega)]
        rw [q2,q1] at this;exact this
      · have hdne : io.dst ≠ some t := fun h => hji (hd.dst _ _ _ _ _ hj hio hdj h)
        have e : (put ES io.dst v).getD t .un = ES.getD t .un := by
          cases hdd : io.dst with
          | none => rfl
          | some d =>
            have hdt : d ≠ t := by rintro rfl; exact hdne hdd
            simp [put,List.getD,List.getElem?_set_ne hdt]
        rw [e,ESget,val2 t j o' hj hdj] at this;rw [getD_set_ne false (Ne.symm hji)];exact this
    · have hsub : (List.range ops.size).filter (fun k => !(l.setIfInBounds i true).getD k false) = ((List.range ops.size).filter (fun k => !l.getD k false)).filter (fun k => k != i) := by
        rw [List.filter_filter];apply List.filter_congr;intro k hk
        by_cases hki : k = i
        · subst hki;have hi' : k < l.size := by omega
          have e : (l.setIfInBounds k true).getD k false = true := by simp [Array.getD_eq_getD_getElem?,hi']
          rw [e]; simp
        · rw [getD_set_ne false (Ne.symm hki)]
          simp [hki]
      rw [hsub];have : (((List.range ops.size).filter (fun k => !l.getD k false)).filter (fun k => k != i)).length < ((List.range ops.size).filter (fun k => !l.getD k false)).length := by
        rw [List.length_filter_lt_length_iff_exists];exact ⟨i,List.mem_filter.mpr ⟨by simpa using hilt,by rw [hli]; rfl⟩,by simp⟩
      omega
end
end Go.Eng
