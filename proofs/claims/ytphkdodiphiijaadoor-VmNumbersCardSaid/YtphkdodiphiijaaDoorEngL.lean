/- A row of operations in whatever order its edges allow (no condition beyond those stated). -/
import Derived.Test.YtphkdodiphiijaaDoorEngK
namespace Go.Eng
open Go
set_option linter.unusedSectionVars false
set_option linter.unusedVariables false
set_option linter.unusedSimpArgs false
variable [Glob]

def Opd.tm : Opd → List Nat
  | .t n => [n]
  | .c _ => []
def optTm : Option Opd → List Nat
  | none => []
  | some d => d.tm
def Kind.tm : Kind → List Nat
  | .mov x => x.tm
  | .pick c a b => c.tm ++ a.tm ++ b.tm
  | .bin _ _ x y => x.tm ++ y.tm
  | .un _ x => x.tm
  | .cvt _ x => x.tm
  | .s2b x => x.tm
  | .b2s x => x.tm
  | .ld x _ => x.tm
  | .st a x _ => a.tm ++ x.tm
  | .idxa x i _ _ => x.tm ++ i.tm
  | .idxs x i => x.tm ++ i.tm
  | .idxg x i _ _ _ => x.tm ++ i.tm
  | .fld x _ _ => x.tm
  | .flda x _ _ => x.tm
  | .box x _ => x.tm
  | .boxr x => x.tm
  | .alloc _ => []
  | .bld _ ps => ps.flatMap fun p => p.2.2.tm
  | .bsl _ _ _ _ ps _ => ps.flatMap fun p => p.2.tm
  | .mks _ _ _ _ l c => l.tm ++ c.tm
  | .slc x lo hi _ => x.tm ++ optTm lo ++ optTm hi
  | .app s x _ _ _ => s.tm ++ x.tm
  | .len _ x => x.tm
  | .call _ f args => f.tm ++ args.flatMap Opd.tm
  | .ext x _ => x.tm
  | .nchk x => x.tm
  | .mkf _ caps => caps.flatMap Opd.tm
  | .mkm _ first => first.flatMap Opd.tm
  | .mki _ x => x.tm
  | .fbin _ x y => x.tm ++ y.tm
  | .fneg x => x.tm
  | .i2f x => x.tm
  | .f2i _ x => x.tm
  | .xc _ x => x.tm
  | .ixb x c => x.tm ++ c.tm
  | .eqs _ _ x y => x.tm ++ y.tm
  | .idxp x i _ _ _ => x.tm ++ i.tm
  | .mnx _ x y => x.tm ++ y.tm
  | .clr x _ _ => x.tm
  | .cpy d s _ => d.tm ++ s.tm
  | .cln _ f x => f.tm ++ x.tm
  | .stuck => []
  | .mkmp => []
  | .slca x lo hi _ _ _ => x.tm ++ optTm lo ++ optTm hi
  | .mget m k _ _ => m.tm ++ k.tm
  | .mset m k x => m.tm ++ k.tm ++ x.tm
  | .mdel m k => m.tm ++ k.tm
  | .mlen m => m.tm
def IOp.tm (o : IOp) : List Nat := o.k.tm ++ (match o.guard with | some (t, _) => [t] | none => [])

def Kind.usesH : Kind → Bool
  | .b2s _ | .ld .. | .call .. | .cln .. | .mget .. | .mlen .. | .slca .. => true
  | _ => false
/-- does it look at the heap, or change it? -/
def IOp.hp (o : IOp) : Bool := !o.k.quiet || (o.k.usesH && !o.lo)

def Agree (env env' : List V) (ts : List Nat) : Prop := ∀ t ∈ ts, env.getD t .un = env'.getD t .un

theorem ev_congr {env env' : List V} {d : Opd} (h : Agree env env' d.tm) : d.ev env = d.ev env' := by
  cases d with
  | t n => exact h n (by simp [Opd.tm])
  | c v => rfl

theorem Agree.sub {env env' : List V} {a b : List Nat} (h : Agree env env' a) (hs : ∀ t ∈ b, t ∈ a) : Agree env env' b := fun t ht => h t (hs t ht)

theorem map_congr_ev {env env' : List V} {l : List Opd} (h : Agree env env' (l.flatMap Opd.tm)) : l.map (·.ev env) = l.map (·.ev env') :=
  List.map_congr_left fun d hd => ev_congr (h.sub (fun t ht => List.mem_flatMap.mpr ⟨d, hd, ht⟩))

theorem opt_congr {env env' : List V} {o : Option Opd} (h : Agree env env' (optTm o)) : o.map (·.ev env) = o.map (·.ev env') := by
  cases o with
  | none => rfl
  | some d => simp only [Option.map_some]; rw [ev_congr h]

theorem evq_congr {F : FT} {env env' : List V} {H H' : Heap} {k : Kind} (h : Agree env env' k.tm) (hH : k.usesH = true → H = H') : evq F env H k = evq F env' H' k := by
  cases k <;> simp only [Kind.tm] at h <;> simp only [Kind.usesH, forall_const, reduceCtorEq, false_implies, Bool.false_eq_true] at hH <;> (try subst hH) <;> simp only [evq]
  case mov x => rw [ev_congr h]
  case pick c a b => rw [ev_congr (h.sub (b := c.tm) (by simp_all)), ev_congr (h.sub (b := a.tm) (by simp_all)), ev_congr (h.sub (b := b.tm) (by simp_all))]
  case bin cl op x y => rw [ev_congr (h.sub (b := x.tm) (by simp_all)), ev_congr (h.sub (b := y.tm) (by simp_all))]
  case un op x => rw [ev_congr h]
  case cvt k x => rw [ev_congr h]
  case b2s x => rw [ev_congr h]
  case ld x n => rw [ev_congr h]
  case idxa x i z ag => rw [ev_congr (h.sub (b := x.tm) (by simp_all)), ev_congr (h.sub (b := i.tm) (by simp_all))]
  case idxs x i => rw [ev_congr (h.sub (b := x.tm) (by simp_all)), ev_congr (h.sub (b := i.tm) (by simp_all))]
  case idxg x i len z n => rw [ev_congr (h.sub (b := x.tm) (by simp_all)), ev_congr (h.sub (b := i.tm) (by simp_all))]
  case fld x off n => rw [ev_congr h]
  case flda x off n => rw [ev_congr h]
  case box x fr => cases fr <;> simp only [evq]; rw [ev_congr h]
  case boxr x => rw [ev_congr h]
  case bld zero ps =>
    congr 1
    exact List.map_congr_left fun p hp => by rw [ev_congr (h.sub (fun t ht => List.mem_flatMap.mpr ⟨p, hp, ht⟩))]
  case bsl z ag n zero ps fr =>
    have : ps.map (fun p => (p.1, p.2.ev env)) = ps.map (fun p => (p.1, p.2.ev env')) :=
      List.map_congr_left fun p hp => by rw [ev_congr (h.sub (fun t ht => List.mem_flatMap.mpr ⟨p, hp, ht⟩))]
    cases fr <;> simp only [evq, this]
  case slc x lo hi z => rw [ev_congr (h.sub (b := x.tm) (by simp_all)), opt_congr (h.sub (b := optTm lo) (by simp_all)), opt_congr (h.sub (b := optTm hi) (by simp_all))]
  case len s x => rw [ev_congr h]
  case call hp f args =>
    cases hp <;> simp only [evq]
    rw [ev_congr (h.sub (b := f.tm) (by simp_all)), map_congr_ev (h.sub (b := args.flatMap Opd.tm) (by intro t ht; exact List.mem_append_right _ ht))]
  case mget m k z ok => rw [ev_congr (h.sub (b := m.tm) (by simp_all)), ev_congr (h.sub (b := k.tm) (by simp_all))]
  case mlen m => rw [ev_congr h]
  case slca x lo hi n z ag => rw [ev_congr (h.sub (b := x.tm) (by simp_all)), opt_congr (h.sub (b := optTm lo) (by simp_all)), opt_congr (h.sub (b := optTm hi) (by simp_all))]
  case cln hp f x => cases hp <;> simp only [evq]; rw [ev_congr (h.sub (b := f.tm) (by simp_all)), ev_congr (h.sub (b := x.tm) (by simp_all))]
  case ext x i => rw [ev_congr h]
  case nchk x => rw [ev_congr h]
  case mkf f caps => rw [map_congr_ev h]
  case mkm f first => rw [map_congr_ev h]
  case mki t x => rw [ev_congr h]
  case fbin op x y => rw [ev_congr (h.sub (b := x.tm) (by simp_all)), ev_congr (h.sub (b := y.tm) (by simp_all))]
  case fneg x => rw [ev_congr h]
  case i2f x => rw [ev_congr h]
  case f2i k x => rw [ev_congr h]
  case xc e x => rw [ev_congr h]
  case ixb x c => rw [ev_congr (h.sub (b := x.tm) (by simp_all)), ev_congr (h.sub (b := c.tm) (by simp_all))]
  case eqs ne sig x y => rw [ev_congr (h.sub (b := x.tm) (by simp_all)), ev_congr (h.sub (b := y.tm) (by simp_all))]
  case idxp x i len z n => rw [ev_congr (h.sub (b := x.tm) (by simp_all)), ev_congr (h.sub (b := i.tm) (by simp_all))]
  case mnx mx x y => rw [ev_congr (h.sub (b := x.tm) (by simp_all)), ev_congr (h.sub (b := y.tm) (by simp_all))]

theorem evw_congr {F : FT} {env env' : List V} {H : Heap} {k : Kind} (h : Agree env env' k.tm) : evw F env H k = evw F env' H k := by
  cases k <;> simp only [Kind.tm] at h <;> simp only [evw]
  case clr x z zc => rw [ev_congr h]
  case cpy d s z => rw [ev_congr (h.sub (b := d.tm) (by simp_all)), ev_congr (h.sub (b := s.tm) (by simp_all))]
  case st a x n => rw [ev_congr (h.sub (b := a.tm) (by simp_all)), ev_congr (h.sub (b := x.tm) (by simp_all))]
  case box x fr => cases fr <;> simp only [evw]; rw [ev_congr h]
  case bsl z ag n zero ps fr =>
    have : ps.map (fun p => (p.1, p.2.ev env)) = ps.map (fun p => (p.1, p.2.ev env')) :=
      List.map_congr_left fun p hp => by rw [ev_congr (h.sub (fun t ht => List.mem_flatMap.mpr ⟨p, hp, ht⟩))]
    cases fr <;> simp only [evw, this]
  case mks z ag zc b l c => rw [ev_congr (h.sub (b := l.tm) (by simp_all)), ev_congr (h.sub (b := c.tm) (by simp_all))]
  case app s x z ag b => rw [ev_congr (h.sub (b := s.tm) (by simp_all)), ev_congr (h.sub (b := x.tm) (by simp_all))]
  case call hp f args =>
    cases hp <;> simp only [evw]
    rw [ev_congr (h.sub (b := f.tm) (by simp_all)), map_congr_ev (h.sub (b := args.flatMap Opd.tm) (by intro t ht; exact List.mem_append_right _ ht))]
  case s2b x => rw [ev_congr h]
  case mset m k x => rw [ev_congr (h.sub (b := m.tm) (by simp_all)), ev_congr (h.sub (b := k.tm) (by simp_all)), ev_congr (h.sub (b := x.tm) (by simp_all))]
  case mdel m k => rw [ev_congr (h.sub (b := m.tm) (by simp_all)), ev_congr (h.sub (b := k.tm) (by simp_all))]
  case cln hp f x => cases hp <;> simp only [evw]; rw [ev_congr (h.sub (b := f.tm) (by simp_all)), ev_congr (h.sub (b := x.tm) (by simp_all))]

/-- an operation elsewhere: the same value, and the same change -/
theorem exOp_congr {F : FT} {o : IOp} {env env' env2 : List V} {H H' H2 : Heap} (h : exOp F o env H = some (env', H')) (ha : Agree env env2 o.tm) (hH : o.hp = true → H = H2) :
    ∃ v, env' = put env o.dst v ∧ (o.k.quiet = true → H' = H) ∧ exOp F o env2 H2 = some (put env2 o.dst v, if o.k.quiet then H2 else H') := by
  have hk : Agree env env2 o.k.tm := ha.sub (fun t ht => by simp [IOp.tm, ht])
  have run : exK F o env H = some (env', H') → ∃ v, env' = put env o.dst v ∧ (o.k.quiet = true → H' = H) ∧ exK F o env2 H2 = some (put env2 o.dst v, if o.k.quiet then H2 else H') := by
    intro h
    unfold exK at h ⊢
    by_cases hq : o.k.quiet = true
    · rw [if_pos hq] at h ⊢
      simp only [Option.map_eq_some_iff, Prod.mk.injEq] at h
      obtain ⟨v, hv, rfl, rfl⟩ := h
      refine ⟨v, rfl, fun _ => rfl, ?_⟩
      rw [← evq_congr (F := F) (H := if o.lo then [] else H) (H' := if o.lo then [] else H2) hk ?_, hv]
      · simp [hq]
      · intro hu
        cases hl : o.lo with
        | true => rfl
        | false => simp only [Bool.false_eq_true, if_false]; exact hH (by simp [IOp.hp, hu, hl])
    · rw [if_neg hq] at h ⊢
      simp only [Option.map_eq_some_iff, Prod.mk.injEq] at h
      obtain ⟨⟨v, H3⟩, hv, rfl, rfl⟩ := h
      have e : H = H2 := hH (by simp [IOp.hp, hq])
      subst e
      refine ⟨v, rfl, fun h => absurd h hq, ?_⟩
      rw [← evw_congr (F := F) hk, hv]
      simp [hq]
  have skipc : ∀ {b : Bool}, b = false → (o.k.quiet = false → H = H2) := fun _ hq => hH (by simp [IOp.hp, hq])
  unfold exOp at h ⊢
  cases hg : o.guard with
  | none => rw [hg] at h; exact run h
  | some p =>
    obtain ⟨t, w⟩ := p
    rw [hg] at h
    dsimp only at h ⊢
    have et : env.getD t .un = env2.getD t .un := ha t (by simp [IOp.tm, hg])
    rw [← et]
    cases hv : env.getD t .un <;> rw [hv] at h <;> dsimp only at h ⊢ <;> (try (cases h; done))
    · cases h
      refine ⟨.sk, rfl, fun _ => rfl, ?_⟩
      by_cases hq : o.k.quiet = true
      · simp [hq]
      · have e : H = H2 := hH (by simp [IOp.hp, hq])
        subst e; simp
    · rename_i b
      by_cases hb : b = w
      · rw [if_pos hb] at h ⊢; exact run h
      · rw [if_neg hb] at h ⊢
        cases h
        refine ⟨.sk, rfl, fun _ => rfl, ?_⟩
        by_cases hq : o.k.quiet = true
        · simp [hq]
        · have e : H = H2 := hH (by simp [IOp.hp, hq])
          subst e; simp

/- ### the order that the edges ask -/
inductive Prec (ops : Array Oper) : Nat → Nat → Prop
  | edge {i : Nat} {o : Oper} {e : Edge} (ho : ops[i]? = some o) (he : e ∈ o.after.toList) (hb : Region.binds .any e = true) : Prec ops e.on i
  | step {i j : Nat} {o : Oper} {e : Edge} (ho : ops[i]? = some o) (he : e ∈ o.after.toList) (hb : Region.binds .any e = true) (h : Prec ops j e.on) : Prec ops j i

def befOf (acc : List Nat) (o : Oper) : Nat := o.after.toList.foldl (fun s e => if Region.binds .any e then s ||| 2 ^ e.on ||| acc.getD e.on 0 else s) 0
def befs : List Oper → List Nat → List Nat
  | [], acc => acc
  | o :: r, acc => befs r (acc ++ [befOf acc o])

theorem befOf_spec {ops : Array Oper} {acc : List Nat} {o : Oper} {i : Nat} (ho : ops[i]? = some o) (hacc : ∀ m j, (acc.getD m 0).testBit j = true → Prec ops j m) :
    ∀ j, (befOf acc o).testBit j = true → Prec ops j i := by
  have key : ∀ (l : List Edge) (s : Nat), (∀ e ∈ l, e ∈ o.after.toList) → (∀ j, s.testBit j = true → Prec ops j i) →
      ∀ j, (l.foldl (fun s e => if Region.binds .any e then s ||| 2 ^ e.on ||| acc.getD e.on 0 else s) s).testBit j = true → Prec ops j i := by
    intro l
    induction l with
    | nil => intro s _ hs j hj; exact hs j hj
    | cons e l ih =>
      intro s hl hs j hj
      rw [List.foldl_cons] at hj
      refine ih _ (fun x hx => hl x (by simp [hx])) ?_ j hj
      intro j hj
      split at hj
      · rename_i hb
        simp only [Nat.testBit_or, Bool.or_eq_true, Nat.testBit_two_pow, decide_eq_true_eq] at hj
        rcases hj with (hj | hj) | hj
        · exact hs j hj
        · subst hj; exact .edge ho (hl e (by simp)) hb
        · exact .step ho (hl e (by simp)) hb (hacc _ _ hj)
      · exact hs j hj
  exact key _ 0 (fun e he => he) (fun j hj => by simp at hj)

theorem befs_spec {ops : Array Oper} : ∀ (l : List Oper) (acc : List Nat), (∀ k o, l[k]? = some o → ops[acc.length + k]? = some o) → (∀ m j, (acc.getD m 0).testBit j = true → Prec ops j m) →
    ∀ m j, ((befs l acc).getD m 0).testBit j = true → Prec ops j m
  | [], acc, _, h => h
  | o :: r, acc, hl, h => by
    refine befs_spec r (acc ++ [befOf acc o]) (fun k p hk => ?_) (fun m j hj => ?_)
    · have := hl (k + 1) p (by simpa using hk)
      simpa [Nat.add_assoc, Nat.add_comm 1 k] using this
    · have ho : ops[acc.length]? = some o := by simpa using hl 0 o (by simp)
      by_cases hm : m < acc.length
      · have e : (acc ++ [befOf acc o]).getD m 0 = acc.getD m 0 := by simp only [List.getD]; rw [List.getElem?_append_left hm]
        rw [e] at hj; exact h m j hj
      · by_cases hm2 : m = acc.length
        · subst hm2
          have e : (acc ++ [befOf acc o]).getD acc.length 0 = befOf acc o := by simp [List.getD]
          rw [e] at hj
          exact befOf_spec ho h j hj
        · have e : (acc ++ [befOf acc o]).getD m 0 = 0 := by
            simp only [List.getD]; rw [List.getElem?_eq_none (by simp; omega)]; rfl
          rw [e] at hj; simp at hj

def allPairs (n : Nat) (f : Nat → Nat → Bool) : Bool := (List.range n).all fun i => (List.range n).all fun j => f i j

def chkDraw (ops : Array Oper) (is : List IOp) : Bool :=
  let bs := befs ops.toList []
  let pre := fun j i => (bs.getD i 0).testBit j
  (List.range ops.size).all (fun i => match ops[i]? with | some o => o.after.toList.all (fun e => !Region.binds .any e || decide (e.on < i)) | none => true) &&
  allPairs is.length (fun i j => i == j || (match is[i]?, is[j]? with
    | some a, some b => (match b.dst with | some t => a.dst != some t && (!a.tm.contains t || pre j i || pre i j) | none => true) &&
        (a.k.quiet || !b.hp || pre j i || pre i j)
    | _, _ => true))

structure DrawOk (ops : Array Oper) (is : List IOp) : Prop where
  edge : ∀ i o e, ops[i]? = some o → e ∈ o.after.toList → Region.binds .any e = true → e.on < i
  dst : ∀ (i j t : Nat) (a b : IOp), is[i]? = some a → is[j]? = some b → a.dst = some t → b.dst = some t → i = j
  nam : ∀ (i j t : Nat) (a b : IOp), i ≠ j → is[i]? = some a → is[j]? = some b → b.dst = some t → t ∈ a.tm → Prec ops j i ∨ Prec ops i j
  wrt : ∀ (i j : Nat) (a b : IOp), i ≠ j → is[i]? = some a → is[j]? = some b → a.k.quiet = false → b.hp = true → Prec ops j i ∨ Prec ops i j

theorem chkDraw_spec {ops : Array Oper} {is : List IOp} (h : chkDraw ops is = true) : DrawOk ops is := by
  simp only [chkDraw, allPairs, Bool.and_eq_true, List.all_eq_true, List.mem_range] at h
  obtain ⟨h1, h2⟩ := h
  have hp := befs_spec (ops := ops) ops.toList [] (fun k o hk => by simpa using hk) (fun m j hj => by simp at hj)
  have pair : ∀ (i j : Nat) (a b : IOp), i ≠ j → is[i]? = some a → is[j]? = some b →
      (match b.dst with | some t => a.dst ≠ some t ∧ (t ∈ a.tm → Prec ops j i ∨ Prec ops i j) | none => True) ∧ (a.k.quiet = false → b.hp = true → Prec ops j i ∨ Prec ops i j) := by
    intro i j a b hij ha hb
    have := h2 i (List.getElem?_eq_some_iff.mp ha).1 j (List.getElem?_eq_some_iff.mp hb).1
    rw [ha, hb] at this
    simp only [Bool.or_eq_true, beq_iff_eq, hij, false_or, Bool.and_eq_true, Bool.not_eq_true'] at this
    obtain ⟨t1, t2⟩ := this
    constructor
    · cases hd : b.dst with
      | none => trivial
      | some t =>
        rw [hd] at t1
        simp only [Bool.and_eq_true, bne_iff_ne, ne_eq, Bool.or_eq_true, Bool.not_eq_true'] at t1
        refine ⟨t1.1, fun ht => ?_⟩
        rcases t1.2 with (h | h) | h
        · exfalso; simp at h; exact h ht
        · exact .inl (hp _ _ h)
        · exact .inr (hp _ _ h)
    · intro hq hb'
      rcases t2 with ((h | h) | h) | h
      · rw [hq] at h; cases h
      · rw [hb'] at h; cases h
      · exact .inl (hp _ _ h)
      · exact .inr (hp _ _ h)
  refine ⟨?_, ?_, ?_, ?_⟩
  · intro i o e ho he hb
    have hlt : i < ops.size := (Array.getElem?_eq_some_iff.mp ho).1
    have := h1 i hlt
    rw [ho] at this
    simp only [List.all_eq_true, Bool.or_eq_true, Bool.not_eq_true', decide_eq_true_eq] at this
    rcases this e he with h | h
    · rw [hb] at h; cases h
    · exact h
  · intro i j t a b ha hb hda hdb
    by_cases hij : i = j
    · exact hij
    · have := (pair i j a b hij ha hb).1
      rw [hdb] at this
      exact absurd hda this.1
  · intro i j t a b hij ha hb hdb ht
    have := (pair i j a b hij ha hb).1
    rw [hdb] at this
    exact this.2 ht
  · intro i j a b hij ha hb
    exact (pair i j a b hij ha hb).2
end Go.Eng
