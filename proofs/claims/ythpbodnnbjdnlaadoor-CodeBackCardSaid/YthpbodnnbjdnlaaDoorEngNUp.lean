/- Functions of this seat, run on unknown values by the rules of the small machine (no condition beyond those stated). -/
import Derived.Test.YthpbodnnbjdnlaaDoorEngM0
import Derived.Test.YthpbodnnbjdnlaaDoorEngPnUp
import Derived.Scope
import Derived.Defers
import Derived.Test.YthpbodnnbjdnlaaDoorProg
import Derived.Recover
import Derived.Tactics
import Derived.Tactics2
import Derived.Laws.Pointers
import Derived.KernelRfl
namespace Go.Eng
open Go
set_option linter.unusedSectionVars false
set_option linter.unusedVariables false
set_option linter.unusedSimpArgs false
variable [Glob] [Xtn]
def chkC (P : Program) : Code → Ir → Bool
  | c,.clr _ b => chkC P c b
  | c,.fin _ b => chkC P c b
  | c,.frz b => chkC P c b
  | .skip,.skip => true
  | .label _,.skip => true
  | .scope c,.scope x => chkC P c x
  | .ret,.ret => true
  | .exit i,.exit j => i == j
  | .seq a b,.seq x y => chkC P a x && chkC P b y
  | .cond c a b,.cond d x y => chkOpd c d && chkC P a x && chkC P b y
  | .block i a,.block j x => i == j && chkC P a x
  | .loop a,.loop x => chkC P a x
  | .region _ ops dr,.rgd ls is => dr && all2 (chkOp P ops) ops.toList is && (chkDraw ops is && chkLim ops is ls && P.follows .mixedOrders)
  | .region _ ops dr,.rgn is => all2 (chkOp P ops) ops.toList is && (!dr || ((chkDraw ops is || chkDrawA ops is) && P.follows .mixedOrders))
  | .region _ ops dr,.rgp is => !dr && all2 (chkOp P ops) ops.toList is
  | .region _ ops dr,.rpn is x => !dr && (match ops.toList.getLast? with | some ⟨none,.panic x',_,_,_,none⟩ => chkOpd x' x | _ => false) && all2 (chkOp P ops) ops.toList.dropLast is
  | .region _ ops dr,.rdp s ls is => dr && all2 (chkOp P ops) ops.toList is && (chkDraw ops is && chkLim ops is ls && P.follows .mixedOrders) && chkDrawX ops is s
  | _,_ => false
def XE (wr : Nat → Prop) (W : World) (own : Own) : X → Exit → Prop
  | .nrm,e => e = .normal
  | .ret,e => e = .ret
  | .ext i,e => e = .exit i
  | .pan v,e => ∃ val,VR wr W own v val ∧ e = .panic [{ v := val,recovered := false }]
theorem clr_sim {wr : Nat → Prop} {W : World} {own : Own} {tmps : Array Value} : ∀ (ts : List Nat) {env : List V},(∀ t,VR wr W own (env.getD t .un) (tmps.getD t undef)) → env.length ≤ tmps.size →
    (∀ t,VR wr W own ((clrEnv ts env).getD t .un) (tmps.getD t undef)) ∧ (clrEnv ts env).length ≤ tmps.size
  | [],env,h,hs => ⟨h,hs⟩
  | d :: ts,env,h,hs => by
    refine clr_sim ts (env := env.set d .un) (fun t => ?_) (by simpa using hs)
    by_cases htd : t = d
    · subst htd;have : (env.set t .un).getD t .un = .un := by
        by_cases hlt : t < env.length <;> simp [List.getD,hlt]
      rw [this]; exact .un _
    · have : (env.set d .un).getD t .un = env.getD t .un := by simp [List.getD,List.getElem?_set_ne (Ne.symm htd)]
      rw [this]; exact h t
section
variable {P : Program} {F : FT}
def Post (wr : Nat → Prop) (W : World) (own : Own) (H' : Heap) (env' : List V) (x : X) (ds : List Deferred) (Q : Exit → Act → World → Prop) : Prop :=
  ∀ a' W' wr' own' e,Ext wr W own wr' W' own' → Sim wr' W' own' H' env' a'.tmps → a'.defers = ds → XE wr' W' own' x e → Q e a' W'
theorem exOps_pre (hF : FSim P F) {ops : Array Oper} {Q : Exit → Act → World → Prop} {l2 : List Oper} : ∀ (l : List Oper) (is : List IOp),all2 (chkOp P ops) l is = true →
    ∀ {wr : Nat → Prop} {W : World} {own : Own} {H H' : Heap} {env env' : List V} {a : Act},Sim wr W own H env a.tmps → exOps F is env H = some (env',H') →
    (∀ a' W' wr' own',Ext wr W own wr' W' own' → Sim wr' W' own' H' env' a'.tmps → a'.defers = a.defers → wpList P ops Q l2 a' W') → wpList P ops Q (l ++ l2) a W
  | [],[],_,wr,W,own,H,H',env,env',a,s,h,hQ => by
    simp only [exOps,Option.some.injEq,Prod.mk.injEq] at h;obtain ⟨rfl,rfl⟩ := h;exact hQ a W wr own (Ext.refl _ _ _) s rfl
  | o :: l,i :: is,hc,wr,W,own,H,H',env,env',a,s,h,hQ => by
    simp only [all2,Bool.and_eq_true] at hc;simp only [exOps] at h
    split at h
    · rename_i env1 H1 h1
      rw [List.cons_append];unfold wpList;refine exOp_sim hF hc.1 s h1 (fun a1 W1 wr1 own1 e1 s1 d1 => ?_);exact exOps_pre hF l is hc.2 s1 h (fun a2 W2 wr2 own2 e2 s2 d2 => hQ a2 W2 wr2 own2 (e1.trans e2) s2 (d2.trans d1))
    · cases h
  | [],_ :: _,hc,_,_,_,_,_,_,_,_,_,_,_ => by simp [all2] at hc
  | _ :: _,[],hc,_,_,_,_,_,_,_,_,_,_,_ => by simp [all2] at hc
theorem exec_sim (hF : FSim P F) (hP : PSim P F) : ∀ (k : Nat) (ir : Ir) (c : Code),chkC P c ir = true → ∀ {env env' : List V} {H H' : Heap} {x : X},exec F k ir env H = some (x,env',H') →
    ∀ {wr : Nat → Prop} {W : World} {own : Own} {a : Act} {Q : Exit → Act → World → Prop},Sim wr W own H env a.tmps → Post wr W own H' env' x a.defers Q → c.wp P Q a W
  | 0,ir,c,_,env,env',H,H',x,h,_,_,_,_,_,_,_ => by simp [exec] at h
  | k + 1,ir,c,hc,env,env',H,H',x,h,wr,W,own,a,Q,s,hQ => by
    cases ir with
    | clr ts b =>
      have hc' : chkC P c b = true := by cases c <;> simpa [chkC] using hc
      simp only [exec] at h;obtain ⟨e1,e2⟩ := clr_sim ts s.vals s.sz;exact exec_sim hF hP k b c hc' h ⟨s.st,e1,e2⟩ hQ
    | fin ds b =>
      have hc' : chkC P c b = true := by cases c <;> simpa [chkC] using hc
      simp only [exec] at h;exact exec_sim hF hP k b c hc' h s hQ
    | frz b =>
      have hc' : chkC P c b = true := by cases c <;> simpa [chkC] using hc
      simp only [exec] at h;exact exec_sim hF hP k b c hc' h s hQ
    | skip =>
      cases c <;> simp [chkC] at hc
      all_goals
        simp only [exec,Option.some.injEq,Prod.mk.injEq] at h;obtain ⟨rfl,rfl,rfl⟩ := h
      · exact wp_skip (hQ a W wr own _ (Ext.refl _ _ _) s rfl rfl)
      · exact wp_label (hQ a W wr own _ (Ext.refl _ _ _) s rfl rfl)
    | scope b =>
      cases c <;> simp [chkC] at hc;simp only [exec] at h;refine wp_scope_straight (exec_sim hF hP k b _ hc h s (fun a1 W1 wr1 own1 e e1 s1 d1 x1 => ?_));have := hQ a1 W1 wr1 own1 e e1 s1 d1 x1;cases x with
      | nrm => cases x1; exact this
      | ret => cases x1; exact this
      | ext i => cases x1; exact this
      | pan v => obtain ⟨val,_,rfl⟩ := x1; exact this
    | dfr pre t cl caps b => cases c <;> simp [chkC] at hc
    | ret =>
      cases c <;> simp [chkC] at hc;simp only [exec,Option.some.injEq,Prod.mk.injEq] at h;obtain ⟨rfl,rfl,rfl⟩ := h;exact wp_ret (hQ a W wr own _ (Ext.refl _ _ _) s rfl rfl)
    | exit j =>
      cases c <;> simp [chkC] at hc;subst hc;simp only [exec,Option.some.injEq,Prod.mk.injEq] at h;obtain ⟨rfl,rfl,rfl⟩ := h;exact wp_exit (hQ a W wr own _ (Ext.refl _ _ _) s rfl rfl)
    | seq p q =>
      cases c <;> simp [chkC] at hc;simp only [exec] at h;apply wp_seq
      split at h
      · rename_i env1 H1 h1
        refine exec_sim hF hP k p _ hc.1 h1 s (fun a1 W1 wr1 own1 e e1 s1 d1 x1 => ?_);cases x1;exact exec_sim hF hP k q _ hc.2 h s1 (fun a2 W2 wr2 own2 e' e2 s2 d2 x2 => hQ a2 W2 wr2 own2 e' (e1.trans e2) s2 (d2.trans d1) x2)
      · rename_i hne
        refine exec_sim hF hP k p _ hc.1 h s (fun a1 W1 wr1 own1 e e1 s1 d1 x1 => ?_);have := hQ a1 W1 wr1 own1 e e1 s1 d1 x1;cases x with
        | nrm => exact absurd h (hne _ _)
        | ret => cases x1; exact this
        | ext i => cases x1; exact this
        | pan v => obtain ⟨val,_,rfl⟩ := x1; exact this
    | cond d p q =>
      cases c <;> simp [chkC] at hc;simp only [exec] at h;have hv := opd_sim s.st.glob s.vals hc.1.1
      split at h
      · rename_i t ht
        rw [ht] at hv;refine wp_cond hv.bool_eq ?_;cases t with
        | true => exact exec_sim hF hP k p _ hc.1.2 h s hQ
        | false => exact exec_sim hF hP k q _ hc.2 h s hQ
      · cases h
    | block j p =>
      cases c <;> simp [chkC] at hc;obtain ⟨rfl,hc⟩ := hc;simp only [exec] at h;apply wp_block
      split at h
      · rename_i i1 env1 H1 h1
        refine exec_sim hF hP k p _ hc h1 s (fun a1 W1 wr1 own1 e e1 s1 d1 x1 => ?_);cases x1
        split at h
        · rename_i hi
          cases h;show Exit.inBlock _ Q (.exit i1) a1 W1;simp only [Exit.inBlock,hi,if_true];exact hQ a1 W1 wr1 own1 _ e1 s1 d1 rfl
        · rename_i hi
          cases h;show Exit.inBlock _ Q (.exit i1) a1 W1;simp only [Exit.inBlock,hi,if_false];exact hQ a1 W1 wr1 own1 _ e1 s1 d1 rfl
      · rename_i hne
        refine exec_sim hF hP k p _ hc h s (fun a1 W1 wr1 own1 e e1 s1 d1 x1 => ?_);have := hQ a1 W1 wr1 own1 e e1 s1 d1 x1;cases x with
        | nrm => cases x1; exact this
        | ret => cases x1; exact this
        | ext i => exact absurd h (hne i _ _)
        | pan v => obtain ⟨val,_,rfl⟩ := x1; exact this
    | loop p =>
      cases c <;> simp [chkC] at hc
      rename_i cb
      have key : ∀ (m : Nat),m ≤ k + 1 → ∀ {env env' : List V} {H H' : Heap} {x : X},exec F m (.loop p) env H = some (x,env',H') →
          ∃ n,∀ {wr : Nat → Prop} {W : World} {own : Own} {a : Act},Sim wr W own H env a.tmps → Post wr W own H' env' x a.defers Q → Code.rounds P cb Q n a W := by
        intro m
        induction m with
        | zero => intro _ env env' H H' x h; simp [exec] at h
        | succ m ih =>
          intro hm env env' H H' x h;have hb : ∀ {env env' : List V} {H H' : Heap} {x : X},exec F m p env H = some (x,env',H') →
              ∀ {wr : Nat → Prop} {W : World} {own : Own} {a : Act} {Q : Exit → Act → World → Prop},Sim wr W own H env a.tmps → Post wr W own H' env' x a.defers Q → cb.wp P Q a W :=
            fun h => exec_sim hF hP m p cb hc h
          simp only [exec] at h
          split at h
          · rename_i env1 H1 h1
            obtain ⟨n,hn⟩ := ih (by omega) h;refine ⟨n + 1,fun s hQ => ?_⟩;rw [rounds_succ];exact hb h1 s (fun a1 W1 wr1 own1 e e1 s1 d1 x1 => by
              cases x1;exact hn s1 (fun a2 W2 wr2 own2 e' e2 s2 d2 x2 => hQ a2 W2 wr2 own2 e' (e1.trans e2) s2 (d2.trans d1) x2))
          · rename_i hne
            refine ⟨1,fun s hQ => ?_⟩;rw [rounds_succ];refine hb h s (fun a1 W1 wr1 own1 e e1 s1 d1 x1 => ?_);have := hQ a1 W1 wr1 own1 e e1 s1 d1 x1;cases x with
            | nrm => exact absurd h (hne _ _)
            | ret => cases x1; exact this
            | ext i => cases x1; exact this
            | pan v => obtain ⟨val,_,rfl⟩ := x1; exact this
      obtain ⟨n,hn⟩ := key (k + 1) (Nat.le_refl _) h;exact wp_loop_rounds n (hn s hQ)
    | rgd ls is =>
      cases c <;> simp [chkC] at hc
      rename_i id ops dr
      simp only [exec] at h
      split at h
      · rename_i tr h1
        split at h
        case isFalse => cases h
        rename_i hst
        simp only [Option.map_eq_some_iff,Prod.mk.injEq] at h;obtain ⟨⟨env1,H1⟩,hlast,rfl,rfl,rfl⟩ := h;obtain ⟨⟨rfl,hc1⟩,⟨hd1,hd2⟩,hd3⟩ := hc;refine wp_region_any hd3 ?_;have hgl : Gl W { W with drawn := W.drawn + 1 } := Gl.drawn W _;have s' : Sim wr { W with drawn := W.drawn + 1 } own H env a.tmps := ⟨s.st.gl hgl,fun t => (s.vals t).gl hgl,s.sz⟩;exact draw0_sim hF hc1 (chkDraw0_spec hd1 hd2) h1 hst hlast s' (fun a1 W1 wr1 own1 e1 s1 d1 => hQ a1 W1 wr1 own1 _ ((Ext.of_gl hgl).trans e1) s1 d1 rfl)
      · cases h
    | rgn is =>
      cases c <;> simp [chkC] at hc
      rename_i id ops dr
      simp only [exec] at h
      split at h
      · rename_i env1 H1 h1
        cases h;cases dr with
        | false => exact wp_region_list (exOps_sim hF _ _ hc.1 s h1 (fun a1 W1 wr1 own1 e1 s1 d1 => hQ a1 W1 wr1 own1 _ e1 s1 d1 rfl))
        | true =>
          have hd := hc.2.resolve_left (by simp);refine wp_region_any hd.2 ?_;have hgl : Gl W { W with drawn := W.drawn + 1 } := Gl.drawn W _;have s' : Sim wr { W with drawn := W.drawn + 1 } own H env a.tmps := ⟨s.st.gl hgl,fun t => (s.vals t).gl hgl,s.sz⟩;rcases hd.1 with hd1 | hd1
          · exact draw_sim hF hc.1 (chkDraw_spec hd1) h1 s' (fun a1 W1 wr1 own1 e1 s1 d1 => hQ a1 W1 wr1 own1 _ ((Ext.of_gl hgl).trans e1) s1 d1 rfl)
          · exact drawA_sim hF hc.1 (chkDrawA_spec hd1) h1 s' (fun a1 W1 wr1 own1 e1 s1 d1 => hQ a1 W1 wr1 own1 _ ((Ext.of_gl hgl).trans e1) s1 d1 rfl)
      · cases h
    | rgp is =>
      cases c <;> simp [chkC] at hc
      rename_i id ops dr
      obtain ⟨rfl,hc⟩ := hc;simp only [exec] at h
      split at h
      · rename_i env1 H1 h1
        cases h;exact wp_region_list (exOpsX_sim hF hP _ _ hc s h1 (fun _ a1 W1 wr1 own1 e1 s1 d1 => hQ a1 W1 wr1 own1 _ e1 s1 d1 rfl) (fun pv hp => by cases hp))
      · rename_i pv env1 H1 h1
        cases h;exact wp_region_list (exOpsX_sim hF hP _ _ hc s h1 (fun hp => by cases hp) (fun pv hp a1 W1 wr1 own1 val e1 s1 d1 v1 => by cases hp; exact hQ a1 W1 wr1 own1 _ e1 s1 d1 ⟨val,v1,rfl⟩))
      · cases h
    | rpn is xo =>
      cases c <;> simp [chkC] at hc
      rename_i id ops dr
      obtain ⟨⟨rfl,hl⟩,hc⟩ := hc;simp only [exec] at h
      split at h
      case h_2 => cases h
      rename_i env1 H1 h1
      split at h
      case h_2 => cases h
      rename_i ti vi hx
      cases h
      split at hl
      case h_2 => cases hl
      rename_i x' ty po af hlast
      refine wp_region_list ?_;have hlast' : ops.toList.getLast? = some ⟨none,.panic x',ty,po,af,none⟩ := by simpa using hlast
      obtain ⟨ys,hys⟩ := List.getLast?_eq_some_iff.mp hlast';have hsp : ops.toList = ops.toList.dropLast ++ [⟨none,.panic x',ty,po,af,none⟩] := by rw [hys]; simp
      rw [hsp];refine exOps_pre hF _ _ hc s h1 (fun a1 W1 wr1 own1 e1 s1 d1 => ?_);unfold wpList;rw [if_pos (by rfl)];refine .inl ?_;have hv := opd_sim s1.st.glob s1.vals hl;rw [hx] at hv;unfold Oper.wp
      generalize hw : a1.eval x' = w at hv
      cases hv
      rename_i v' hv'
      rw [show (execOp a1.eval ⟨none,.panic x',ty,po,af,none⟩) = (do pure (Next.value (← Instr.panic (a1.eval x')))) from rfl,hw];show Oper.upon P _ a1 _ Q (.halt (.panic (.iface ti v')) W1);rw [Oper.upon_panic];exact hQ a1 W1 wr1 own1 _ e1 s1 d1 ⟨_,.ifc hv',rfl⟩
    | rdp si ls is =>
      cases c <;> simp [chkC] at hc
      rename_i id ops dr
      obtain ⟨⟨⟨rfl,hc1⟩,⟨hd1,hd2⟩,hd3⟩,hdx⟩ := hc;simp only [exec] at h
      split at h
      case h_2 => cases h
      rename_i env1 H1 o hp1 hos
      have hgl : Gl W { W with drawn := W.drawn + 1 } := Gl.drawn W _;have s' : Sim wr { W with drawn := W.drawn + 1 } own H env a.tmps := ⟨s.st.gl hgl,fun t => (s.vals t).gl hgl,s.sz⟩
      split at h
      · rename_i pv e2 H2 hx
        cases h;refine wp_region_any hd3 ?_;exact drawX_sim hF hP hc1 (chkDrawX_spec hdx) hp1 hos hx s' (fun a1 W1 wr1 own1 val e1 s1 d1 v1 => hQ a1 W1 wr1 own1 _ ((Ext.of_gl hgl).trans e1) s1 d1 ⟨val,v1,rfl⟩)
      · split at h
        case h_2 => cases h
        rename_i tr h1
        split at h
        case isFalse => cases h
        rename_i hst
        simp only [Option.map_eq_some_iff,Prod.mk.injEq] at h;obtain ⟨⟨env1,H1⟩,hlast,rfl,rfl,rfl⟩ := h;refine wp_region_any hd3 ?_;exact draw0_sim hF hc1 (chkDraw0_spec hd1 hd2) h1 hst hlast s' (fun a1 W1 wr1 own1 e1 s1 d1 => hQ a1 W1 wr1 own1 _ ((Ext.of_gl hgl).trans e1) s1 d1 rfl)
      · cases h
def resTm : ResultVar → Option Nat
  | .tmp t => some t
  | _ => none
def resOk (P : Program) : List ResultVar → List (Nat × Option Sh) → Bool
  | [],[] => true
  | .tmp t :: rs,(u,none) :: ds => t == u && resOk P rs ds
  | .cell t ty :: rs,(u,some n) :: ds => t == u && chkSh P ty n && resOk P rs ds
  | _,_ => false
class DfrOk (P : Program) where
  cl : Nat → Option Nat
  fok : ∀ f n,cl f = some n → FOk P f
  ok : ∀ f n,cl f = some n → ∀ (args : Array Value) (W : World),args.size = n → CallsD P f args .returning W fun e u' w' => (∃ v,e = .returned v) ∧ u' = .returning ∧ w' = W
  rc : ∀ f n,cl f = some n → ∀ (caps : List V) (pv : V) (H H3 : Heap),Xtn.rcv f caps pv H = some H3 → ∀ (wr : Nat → Prop) (W : World) (own : Own) (args : Array Value) (val : Value),args.size = n → St wr W own H → caps.length = args.size →
    (∀ (j : Nat) (c : V),caps[j]? = some c → VR wr W own c (args.getD j undef)) → VR wr W own pv val →
    CallsD P f args (.panicking [{ v := val,recovered := false }]) W fun e u' w' => (∃ v,e = .returned v) ∧ settle u' = .returning ∧ ∃ wr' own',Ext wr W own wr' w' own' ∧ St wr' w' own' H3
instance (priority := low) noDfr (P : Program) : DfrOk P := ⟨fun _ => none,fun f n h => (by cases h),fun f n h => (by cases h),fun f n h => (by cases h)⟩
def chkD (P : Program) [D : DfrOk P] : Code → Ir → Bool
  | c,.fin _ b => chkD P c b
  | c,.frz b => chkD P c b
  | .seq a (.seq (.region _ ops dr) c),.dfr pre t cl cs b => chkC P a (.rgn pre) && (!dr && (match ops.toList with
      | [⟨some t1,.makeFunc (.func f) first caps,_,_,_,none⟩,⟨none,.defer d,_,_,_,none⟩] => t1 == t && (f == cl && (first.isEmpty && (D.cl f == some caps.size && (all2 chkOpd caps.toList cs && (d.args.isEmpty && (match d.callee with | .value (.tmp t2) => t2 == t | _ => false))))))
      | _ => false) && chkC P c b)
  | _,_ => false
theorem dfr_sim [D : DfrOk P] (hF : FSim P F) (hP : PSim P F) {fn : Func} {R : Ending → World → Prop} : ∀ (k : Nat) (ir : Ir) (c : Code),chkD P c ir = true → ∀ {env env' : List V} {H H' : Heap} {x : X},exec F k ir env H = some (x,env',H') → (x = .nrm ∨ x = .ret) →
    ∀ {wr : Nat → Prop} {W : World} {own : Own} {a : Act},Sim wr W own H env a.tmps → a.defers = [] →
    (∀ (a' : Act) (W' : World) (wr' : Nat → Prop) (own' : Own),Ext wr W own wr' W' own' → Sim wr' W' own' H' env' a'.tmps → ∃ v,(results fn a'.tmps).run P W' = .ok v W' ∧ R (.returned v) W') → c.wp P (bodyPostD P fn R) a W
  | 0,ir,c,_,env,env',H,H',x,h,_,_,_,_,_,_,_,_ => by simp [exec] at h
  | k + 1,ir,c,hc,env,env',H,H',x,h,hx,wr,W,own,a,s,ha,hQ => by
    cases ir with
    | fin ds b =>
      have hc' : chkD P c b = true := by cases c <;> simpa [chkD] using hc
      simp only [exec] at h;exact dfr_sim hF hP k b c hc' h hx s ha hQ
    | frz b =>
      have hc' : chkD P c b = true := by cases c <;> simpa [chkD] using hc
      simp only [exec] at h;exact dfr_sim hF hP k b c hc' h hx s ha hQ
    | dfr pre t cl cs b =>
      cases c <;> try (simp [chkD] at hc; done)
      rename_i ca cb
      cases cb <;> try (simp [chkD] at hc; done)
      rename_i cr cc
      cases cr <;> try (simp [chkD] at hc; done)
      rename_i rid ops dr
      simp only [chkD,Bool.and_eq_true,Bool.not_eq_true'] at hc;obtain ⟨hc1,⟨hdr,hops⟩,hc3⟩ := hc;subst hdr;simp only [exec] at h
      split at h
      case h_2 => cases h
      rename_i env1 H1 h1
      apply wp_seq;have he1 : exec F (k + 1) (.rgn pre) env H = some (.nrm,env1,H1) := by simp only [exec,h1]
      refine exec_sim hF hP (k + 1) (.rgn pre) ca hc1 he1 s (fun a1 W1 wr1 own1 e1 x1 s1 d1 q1 => ?_);cases q1;apply wp_seq;refine wp_region_list ?_
      split at hops
      case h_2 => cases hops
      rename_i t1 f first caps ty1 po1 af1 d ty2 po2 af2 hl
      simp only [Bool.and_eq_true,beq_iff_eq] at hops;obtain ⟨rfl,rfl,hfirst,hD,hcs,hdargs,hcal⟩ := hops
      split at hcal
      case h_2 => cases hcal
      rename_i t2 hdc
      have hcal : t2 = t1 := by simpa using hcal
      subst hcal
      split at h
      case isFalse => cases h
      rename_i ht
      have hfe : first = #[] := by simpa using hfirst
      have hda : d.args = #[] := by simpa using hdargs
      subst hfe;have htm : t2 < a1.tmps.size := Nat.lt_of_lt_of_le ht s1.sz
      let fv : Value := .func (.func f) #[] (caps.map a1.eval)
      obtain ⟨p1,p2,p3⟩ := put_sim (wr := wr1) (W := W1) (own := own1) s1.vals s1.sz (.un fv) (some t2);have hev : (a1.put (some t2) fv).eval (.tmp t2) = fv := by
        show (a1.tmps.setIfInBounds t2 fv).getD t2 undef = fv
        simp [Array.getD_eq_getD_getElem?,htm]
      rw [hl];unfold wpList;rw [if_pos (by rfl)];refine .inl ?_;unfold Oper.wp;rw [show (execOp a1.eval ⟨some t2,.makeFunc (.func f) #[] caps,ty1,po1,af1,none⟩) = (do pure (Next.value (← Instr.makeFunc (.func f) (#[].map a1.eval) (caps.map a1.eval)))) from rfl];rw [run_v (v' := fv) (W' := W1) (by simp [Instr.makeFunc,fv]),Oper.upon_value];unfold wpList;rw [if_pos (by rfl)];refine .inl ?_;unfold Oper.wp;have hdf : (execOp (a1.put (some t2) fv).eval ⟨none,.defer d,ty2,po2,af2,none⟩).run P W1 = .ok (.defer { target := .fn (.func f) (caps.map a1.eval),args := #[] }) W1 := by
        simp only [execOp,resolve,hdc,hda,hev,fv,Deferred.ofValue,Sem.run_bind,Sem.run_pure,Result.andThen_ok]
        simp
      rw [hdf,Oper.upon_defer];unfold wpList;have hfk := D.fok f caps.size hD;cases hb : exec F k b (clrEnv [t2] env1) H1 with
      | none => rw [hb] at h; cases h
      | some q =>
      obtain ⟨xb,env2,H2⟩ := q;rw [hb] at h;refine exec_sim hF hP k b cc hc3 hb (a := ({ (a1.put (some t2) fv) with defers := { target := .fn (.func f) (caps.map a1.eval),args := #[] } :: (a1.put (some t2) fv).defers } : Act).put none undef) ⟨s1.st,p1,p2⟩ (fun a4 W4 wr4 own4 e4 x4 s4 d4 q4 => ?_);have hdd : a4.defers = [{ target := .fn (.func f) (caps.map a1.eval),args := #[] }] := by
        rw [d4];show _ :: (a1.put (some t2) fv).defers = _;rw [p3,d1,ha]
      have hinv : (invoke (.fn (.func f) (caps.map a1.eval)) #[]).run P W4 = .ok (.enter f (#[] ++ caps.map a1.eval)) W4 := by
        obtain ⟨fn2,f1,f2,f3⟩ := hfk;simp only [invoke,callFunc,Sem.run_bind,run_program,Result.andThen_ok,f1]
        simp [f2,f3]
      have hleave : ∀ env' H',env2 = env' → H2 = H' → (∀ (a' : Act) (W' : World) (wr' : Nat → Prop) (own' : Own),Ext wr W own wr' W' own' → Sim wr' W' own' H' env' a'.tmps → ∃ v,(results fn a'.tmps).run P W' = .ok v W' ∧ R (.returned v) W') → Leaves P fn a4.tmps R a4.defers .returning W4 := by
        rintro _ _ rfl rfl hQ;rw [hdd];refine leaves_cons (f := f) (args := #[] ++ caps.map a1.eval) (by simp) hinv ?_;refine (D.ok f caps.size hD _ W4 (by simp)).mono ?_;rintro e u' w' ⟨⟨v,rfl⟩,rfl,rfl⟩;exact hQ a4 _ wr4 own4 (x1.trans x4) s4
      cases xb with
      | nrm =>
        cases q4;simp only [Option.some.injEq,Prod.mk.injEq] at h;exact hleave _ _ h.2.1 h.2.2 hQ
      | ret =>
        cases q4;simp only [Option.some.injEq,Prod.mk.injEq] at h;exact hleave _ _ h.2.1 h.2.2 hQ
      | ext i =>
        simp only [Option.some.injEq,Prod.mk.injEq] at h
        exfalso
        rcases hx with rfl | rfl <;> cases h.1
      | pan pv =>
        obtain ⟨val,hval,rfl⟩ := q4;simp only [Option.map_eq_some_iff,Prod.mk.injEq] at h;obtain ⟨H3,hrc,rfl,rfl,rfl⟩ := h;show Leaves P fn a4.tmps R a4.defers (.panicking _) W4;rw [hdd];refine leaves_cons (f := f) (args := #[] ++ caps.map a1.eval) (by simp) hinv ?_;obtain ⟨cs1,cs2⟩ := args_sim s1.st.glob s1.vals hcs;have e0 : #[] ++ caps.map a1.eval = caps.map a1.eval := by simp
        rw [e0];refine (D.rc f caps.size hD _ pv H2 H3 hrc wr4 W4 own4 _ val (by simp) s4.st cs1 (fun j c hj => (cs2 j c hj).mono (x4.grow s1.st) x4.owns) hval).mono ?_;rintro e u' w' ⟨⟨v,rfl⟩,hu,wr5,own5,x5,s5⟩;show Leaves P fn a4.tmps R [] (settle u') w';rw [hu];exact hQ a4 w' wr5 own5 ((x1.trans x4).trans x5) ⟨s5,Sim.mono s4.st x5 s4.vals,s4.sz⟩
    | _ => cases c <;> simp [chkD] at hc
class XtnOk (P : Program) : Prop where
  fok : FSim P Xtn.fn
  pok : PSim P Xtn.fn
def chkF (P : Program) [DfrOk P] (f : Nat) (g : IFun) : Bool :=
  match P.funcs[f]? with
  | none => false
  | some fn => !(fn.name == "runtime.NumGoroutine") && fn.ntmps == g.ntmps && fn.nfree + fn.params.size ≤ g.ntmps && (match g.body.cells with | none => fn.results.toList.map resTm == g.res.map some | some ds => g.res.length == ds.length && resOk P fn.results.toList (g.res.zip ds)) &&
      (match fn.body with | some c => chkC P c g.body || chkD P c g.body | none => false)
def resVal (tmps : Array Value) (res : List Nat) : Value :=
  match res with
  | [t] => tmps.getD t undef
  | ts => .tuple (ts.map fun t => tmps.getD t undef).toArray
theorem results_run {fn : Func} {res : List Nat} (h : fn.results.toList.map resTm = res.map some) (tmps : Array Value) (W : World) :
    (results fn tmps).run P W = .ok (resVal tmps res) W := by
  have hm : (fn.results.mapM fun r => (match r with | .tmp t => pure (tmps.getD t undef) | .cell a t => do loadVar t (← asAddr (tmps.getD a undef)) : Sem Value)).run P W =
      .ok (fn.results.map fun r => match r with | .tmp t => tmps.getD t undef | .cell _ _ => undef) W := by
    refine run_mapM_arr _ _ _ (fun r hr => ?_);cases r with
    | tmp t => rfl
    | cell a t =>
      exfalso
      have : resTm (.cell a t) ∈ fn.results.toList.map resTm := List.mem_map.mpr ⟨_,hr,rfl⟩;rw [h] at this
      simp [resTm] at this
  have hv : (fn.results.map fun r => match r with | .tmp t => tmps.getD t undef | .cell _ _ => undef) = (res.map fun t => tmps.getD t undef).toArray := by
    apply Array.ext';simp only [Array.toList_map];have key : ∀ (l : List ResultVar) (res : List Nat),l.map resTm = res.map some → l.map (fun r => match r with | .tmp t => tmps.getD t undef | .cell _ _ => undef) = res.map fun t => tmps.getD t undef := by
      intro l
      induction l with
      | nil => intro res h; cases res <;> simp at h ⊢
      | cons r l ih =>
        intro res h;cases res with
        | nil => simp at h
        | cons t ts =>
          simp only [List.map_cons,List.cons.injEq] at h ⊢;refine ⟨?_,ih ts h.2⟩;cases r with
          | tmp u => have := h.1; simp [resTm] at this; rw [this]
          | cell a u => have := h.1; simp [resTm] at this
    exact key _ _ h
  unfold results;rw [Sem.run_bind]
  erw [hm]
  rw [Result.andThen_ok,hv];cases res with
  | nil => rfl
  | cons t ts => cases ts <;> rfl
theorem resV_sim {wr : Nat → Prop} {W : World} {own : Own} {env : List V} {tmps : Array Value} (hv : ∀ t,VR wr W own (env.getD t .un) (tmps.getD t undef)) (res : List Nat) :
    VR wr W own (resV res env) (resVal tmps res) := by
  have tup : ∀ (ts : List Nat),VR wr W own (.tup (ts.map fun t => env.getD t .un)) (.tuple (ts.map fun t => tmps.getD t undef).toArray) := by
    intro ts;refine .tup (by simp) (fun j c hj => ?_);simp only [List.getElem?_map,Option.map_eq_some_iff] at hj;obtain ⟨t,ht,rfl⟩ := hj;have e : ((ts.map fun t => tmps.getD t undef).toArray)[j]? = some (tmps.getD t undef) := by simp [ht]
    rw [getD_of_some e]; exact hv t
  unfold resV resVal;cases res with
  | nil => exact tup []
  | cons t ts =>
    cases ts with
    | nil => exact hv t
    | cons u us => exact tup (t :: u :: us)
theorem load_asAddr {W : World} {t : TypeId} {p y : Value} (h : (Instr.loadAt t p).run P W = .ok y W) : (do loadVar t (← asAddr p) : Sem Value).run P W = .ok y W := by
  unfold Instr.loadAt at h;cases p with
  | pointer o =>
    cases o with
    | some a => exact h
    | none => simp [Instr.sureAddr] at h
  | _ => simp [Instr.sureAddr] at h
theorem run_mapM_rel {α β : Type} (f : α → Sem β) (W : World) : ∀ (l : List α) (ys : List β),l.length = ys.length → (∀ (j : Nat) (x : α) (y : β),l[j]? = some x → ys[j]? = some y → (f x).run P W = .ok y W) → (l.mapM f).run P W = .ok ys W
  | [],[],_,_ => rfl
  | x :: l,y :: ys,hl,h => by
    have h0 := h 0 x y rfl rfl;have ih := run_mapM_rel f W l ys (by simpa using hl) (fun j a b ha hb => h (j + 1) a b (by simpa using ha) (by simpa using hb))
    simp [List.mapM_cons,h0,ih]
  | [],_ :: _,hl,_ => by simp at hl
  | _ :: _,[],hl,_ => by simp at hl
theorem cells_run {wr : Nat → Prop} {W : World} {own : Own} {H : Heap} {env : List V} {tmps : Array Value} (s : Rd wr W own H) (hv : ∀ t,VR wr W own (env.getD t .un) (tmps.getD t undef)) :
    ∀ (rs : List ResultVar) (ds : List (Nat × Option Sh)),resOk P rs ds = true → ∀ (vs : List V),omap (ldR env H) ds = some vs →
      ∃ ys : List Value,rs.length = ys.length ∧ vs.length = ys.length ∧ (∀ (j : Nat) (r : ResultVar) (y : Value),rs[j]? = some r → ys[j]? = some y →
        ((match r with | .tmp t => pure (tmps.getD t undef) | .cell a t => do loadVar t (← asAddr (tmps.getD a undef)) : Sem Value)).run P W = .ok y W) ∧
        ∀ (j : Nat) (v : V) (y : Value),vs[j]? = some v → ys[j]? = some y → VR wr W own v y
  | [],[],_,vs,h => by
    simp only [omap,Option.some.injEq] at h;subst h;exact ⟨[],rfl,rfl,fun j r y h => by simp at h,fun j r y h => by simp at h⟩
  | .tmp t :: rs,(u,none) :: ds,hk,vs,h => by
    simp only [resOk,Bool.and_eq_true,beq_iff_eq] at hk;obtain ⟨rfl,hk⟩ := hk;simp only [omap,ldR] at h;cases h2 : omap (ldR env H) ds with
    | none => rw [h2] at h; simp at h
    | some ws =>
      rw [h2] at h;simp only [Option.some.injEq] at h;subst h;obtain ⟨ys,e1,e2,e3,e4⟩ := cells_run s hv rs ds hk ws h2;refine ⟨tmps.getD t undef :: ys,by simp [e1],by simp [e2],fun j r y hr hy => ?_,fun j v y hr hy => ?_⟩
      · cases j with
        | zero => simp only [List.getElem?_cons_zero,Option.some.injEq] at hr hy; subst hr; subst hy; rfl
        | succ j => exact e3 j r y (by simpa using hr) (by simpa using hy)
      · cases j with
        | zero => simp only [List.getElem?_cons_zero,Option.some.injEq] at hr hy; subst hr; subst hy; exact hv t
        | succ j => exact e4 j v y (by simpa using hr) (by simpa using hy)
  | .cell t ty :: rs,(u,some n) :: ds,hk,vs,h => by
    simp only [resOk,Bool.and_eq_true,beq_iff_eq] at hk;obtain ⟨⟨rfl,hs⟩,hk⟩ := hk;simp only [omap,ldR] at h;cases h1 : ldV H (env.getD t .un) n with
    | none => rw [h1] at h; simp at h
    | some w =>
      rw [h1] at h;cases h2 : omap (ldR env H) ds with
      | none => rw [h2] at h; simp at h
      | some ws =>
        rw [h2] at h;simp only [Option.some.injEq] at h;subst h;obtain ⟨ys,e1,e2,e3,e4⟩ := cells_run s hv rs ds hk ws h2;obtain ⟨y0,f1,f2⟩ := ld_run s hs (hv t) h1;refine ⟨y0 :: ys,by simp [e1],by simp [e2],fun j r y hr hy => ?_,fun j v y hr hy => ?_⟩
        · cases j with
          | zero => simp only [List.getElem?_cons_zero,Option.some.injEq] at hr hy; subst hr; subst hy; exact load_asAddr f1
          | succ j => exact e3 j r y (by simpa using hr) (by simpa using hy)
        · cases j with
          | zero => simp only [List.getElem?_cons_zero,Option.some.injEq] at hr hy; subst hr; subst hy; exact f2
          | succ j => exact e4 j v y (by simpa using hr) (by simpa using hy)
  | [],_ :: _,hk,_,_ => by simp [resOk] at hk
  | _ :: _,[],hk,_,_ => by simp [resOk] at hk
  | .tmp _ :: _,(_,some _) :: _,hk,_,_ => by simp [resOk] at hk
  | .cell _ _ :: _,(_,none) :: _,hk,_,_ => by simp [resOk] at hk
theorem resW_sim {wr : Nat → Prop} {W : World} {own : Own} {H : Heap} {env : List V} {tmps : Array Value} (s : Rd wr W own H) (hv : ∀ t,VR wr W own (env.getD t .un) (tmps.getD t undef)) {fn : Func} {cs : Option (List (Option Sh))} {res : List Nat}
    (hk : (match cs with | none => fn.results.toList.map resTm == res.map some | some ds => res.length == ds.length && resOk P fn.results.toList (res.zip ds)) = true) {r : V} (h : resW cs res env H = some r) :
    ∃ v,(results fn tmps).run P W = .ok v W ∧ VR wr W own r v := by
  cases cs with
  | none =>
    simp only [beq_iff_eq] at hk;simp only [resW,Option.some.injEq] at h;subst h;exact ⟨_,results_run (P := P) hk tmps W,resV_sim hv res⟩
  | some ds =>
    simp only [Bool.and_eq_true,beq_iff_eq] at hk;simp only [resW,Option.map_eq_some_iff] at h;obtain ⟨vs,h1,rfl⟩ := h;obtain ⟨ys,e1,e2,e3,e4⟩ := cells_run s hv _ _ hk.2 vs h1;have hm : (fn.results.mapM fun r => (match r with | .tmp t => pure (tmps.getD t undef) | .cell a t => do loadVar t (← asAddr (tmps.getD a undef)) : Sem Value)).run P W = .ok ys.toArray W := by
      have := run_mapM_rel (P := P) (fun r => (match r with | .tmp t => pure (tmps.getD t undef) | .cell a t => do loadVar t (← asAddr (tmps.getD a undef)) : Sem Value)) W fn.results.toList ys e1 e3;rw [Array.mapM_eq_mapM_toList];rw [Sem.run_map]
      erw [this]
      rfl
    unfold results;rw [Sem.run_bind]
    erw [hm]
    rw [Result.andThen_ok]
    clear hm e1 e3 h1
    match ys,vs,e2,e4 with
    | [],[],_,_ => exact ⟨_,rfl,.tup rfl (fun j c hj => by simp at hj)⟩
    | [y],[v],_,e4 => exact ⟨_,rfl,e4 0 v y rfl rfl⟩
    | y :: y1 :: ys,v :: v1 :: vs,e2,e4 =>
      refine ⟨_,rfl,.tup (by simpa using e2) (fun j c hj => ?_)⟩;have hjl := (List.getElem?_eq_some_iff.mp hj).1;have hjl2 : j < (y :: y1 :: ys).length := by rw [← e2]; exact hjl
      have e : ((y :: y1 :: ys).toArray)[j]? = some ((y :: y1 :: ys)[j]) := by simp [hjl2]
      rw [getD_of_some e]; exact e4 j c _ hj (List.getElem?_eq_getElem hjl2)
theorem dfr_nopan [D : DfrOk P] : ∀ (k : Nat) (ir : Ir) (c : Code),chkD P c ir = true → ∀ {env env' : List V} {H H' : Heap} {x : X} {v : V},exec F k ir env H = some (x,env',H') → x ≠ .pan v
  | 0,ir,c,_,env,env',H,H',x,v,h => by simp [exec] at h
  | k + 1,ir,c,hc,env,env',H,H',x,v,h => by
    cases ir with
    | fin ds b =>
      have hc' : chkD P c b = true := by cases c <;> simpa [chkD] using hc
      simp only [exec] at h;exact dfr_nopan k b c hc' h
    | frz b =>
      have hc' : chkD P c b = true := by cases c <;> simpa [chkD] using hc
      simp only [exec] at h;exact dfr_nopan k b c hc' h
    | dfr pre t cl cs b =>
      simp only [exec] at h
      split at h
      case h_2 => cases h
      split at h
      case isFalse => cases h
      split at h
      · simp only [Option.map_eq_some_iff,Prod.mk.injEq] at h;obtain ⟨H3,_,rfl,_⟩ := h;intro hh; cases hh
      · rename_i hne
        rintro rfl;exact hne _ _ _ h
    | _ => cases c <;> simp [chkD] at hc
theorem exF_sim2 [DfrOk P] [XtnOk P] {T : Nat → Option IFun} (hT : ∀ f g,T f = some g → chkF P f g = true) : ∀ k,FSim P (exF T k) ∧ PSim P (exF T k)
  | 0 => ⟨fun f args H r H' h => by simp [exF] at h,fun f args H p r H' h => by simp [exF] at h⟩
  | k + 1 => by
    obtain ⟨ihF,ihP⟩ := exF_sim2 hT k;have start : ∀ {g : IFun} {fn : Func},fn.ntmps = g.ntmps → ∀ {args : List V} {wr : Nat → Prop} {W : World} {own : Own} {vals : Array Value} {H : Heap},St wr W own H → args.length = vals.size → (∀ (j : Nat) (c : V),args[j]? = some c → VR wr W own c (vals.getD j undef)) →
        Sim wr W own H (args ++ List.replicate (g.ntmps - args.length) .un) (vals ++ Array.replicate (fn.ntmps - vals.size) undef) := by
      intro g fn c2 args wr W own vals H s hl hargs;refine ⟨s,fun t => ?_,?_⟩
      · rw [c2,hl];rcases Nat.lt_or_ge t args.length with h1 | h1
        · have e1 : (args ++ List.replicate (g.ntmps - vals.size) V.un).getD t .un = args[t] := by
            simp [List.getD,List.getElem?_append_left h1,h1]
          have h1' : t < vals.size := by omega
          have e2 : (vals ++ Array.replicate (g.ntmps - vals.size) undef).getD t undef = vals[t] := by
            apply getD_of_some; rw [Array.getElem?_append_left h1',Array.getElem?_eq_getElem h1']
          rw [e1,e2];have := hargs t args[t] (List.getElem?_eq_getElem h1)
          rwa [getD_of_some (Array.getElem?_eq_getElem h1')] at this
        · have e1 : (args ++ List.replicate (g.ntmps - vals.size) V.un).getD t .un = .un := by
            simp only [List.getD]; rw [List.getElem?_append_right h1,List.getElem?_replicate]; split <;> rfl
          rw [e1]; exact .un _
      · simp [c2]; omega
    have run : ∀ (f : Nat) (g : IFun) (args : List V) (H : Heap) (p : Bool) (r : V) (H' : Heap),T f = some g →
        (∃ x env',exec (exF T k) k g.body (args ++ List.replicate (g.ntmps - args.length) .un) H = some (x,env',H') ∧ (if p then x = .pan r else (x = .nrm ∨ x = .ret) ∧ resW g.body.cells g.res env' H' = some r)) →
        FOk P f ∧ ∀ (wr : Nat → Prop) (W : World) (own : Own) (vals : Array Value),St wr W own H → args.length = vals.size → (∀ (j : Nat) (c : V),args[j]? = some c → VR wr W own c (vals.getD j undef)) →
          Calls P f vals W fun e w' => ∃ v wr' own',Ends p v e ∧ Ext wr W own wr' w' own' ∧ St wr' w' own' H' ∧ VR wr' w' own' r v := by
      intro f g args H p r H' hg ⟨x,env',he,hx⟩;have hc := hT f g hg;unfold chkF at hc;cases hfn : P.funcs[f]? with
      | none => rw [hfn] at hc; simp at hc
      | some fn =>
        rw [hfn] at hc;simp only [Bool.and_eq_true,Bool.not_eq_true',beq_iff_eq,decide_eq_true_eq] at hc;obtain ⟨⟨⟨⟨c1,c2⟩,c3⟩,c4⟩,c5⟩ := hc;cases hb : fn.body with
        | none => rw [hb] at c5; cases c5
        | some c =>
          rw [hb] at c5;refine ⟨⟨fn,hfn,c1,by simp [hb]⟩,?_⟩;intro wr W own vals s hl hargs;have hsim := start (g := g) (fn := fn) c2 s hl hargs;simp only [Bool.or_eq_true] at c5;cases p with
          | true =>
            simp only [if_true] at hx;subst hx;rcases c5 with c5 | c5
            · refine calls_of_wp hfn hb ?_;refine exec_sim ihF ihP k g.body c c5 he (wr := wr) (own := own) hsim ?_;intro a' W' wr' own' e e1 s1 d1 x1;obtain ⟨val,hv,rfl⟩ := x1;exact ⟨d1,val,wr',own',rfl,e1,s1.st,hv⟩
            · exact absurd rfl (dfr_nopan k g.body c c5 he)
          | false =>
            simp only [Bool.false_eq_true,if_false] at hx;obtain ⟨hx,hres0⟩ := hx;rcases c5 with c5 | c5
            · refine calls_of_wp hfn hb ?_;refine exec_sim ihF ihP k g.body c c5 he (wr := wr) (own := own) hsim ?_;intro a' W' wr' own' e e1 s1 d1 x1;obtain ⟨w,hres,hvr⟩ := resW_sim (P := P) s1.st.toRd s1.vals c4 hres0;rcases hx with rfl | rfl
              · cases x1; exact ⟨d1,_,hres,_,wr',own',rfl,e1,s1.st,hvr⟩
              · cases x1; exact ⟨d1,_,hres,_,wr',own',rfl,e1,s1.st,hvr⟩
            · refine calls_of_wp_defers hfn hb ?_;refine dfr_sim ihF ihP k g.body c c5 he hx (wr := wr) (own := own) hsim rfl ?_;intro a' W' wr' own' e1 s1;obtain ⟨w,hres,hvr⟩ := resW_sim (P := P) s1.st.toRd s1.vals c4 hres0;exact ⟨_,hres,_,wr',own',rfl,e1,s1.st,hvr⟩
    have fz : ∀ {f : Nat} {z : Bool} {args : List V} {H : Heap} {p : Bool} {r : V} {H' : Heap} {r2 : V} {H2 : Heap},frzR z H r H' = some (r2,H2) →
        (FOk P f ∧ ∀ (wr : Nat → Prop) (W : World) (own : Own) (vals : Array Value),St wr W own H → args.length = vals.size → (∀ (j : Nat) (c : V),args[j]? = some c → VR wr W own c (vals.getD j undef)) →
          Calls P f vals W fun e w' => ∃ v wr' own',Ends p v e ∧ Ext wr W own wr' w' own' ∧ St wr' w' own' H' ∧ VR wr' w' own' r v) →
        FOk P f ∧ ∀ (wr : Nat → Prop) (W : World) (own : Own) (vals : Array Value),St wr W own H → args.length = vals.size → (∀ (j : Nat) (c : V),args[j]? = some c → VR wr W own c (vals.getD j undef)) →
          Calls P f vals W fun e w' => ∃ v wr' own',Ends p v e ∧ Ext wr W own wr' w' own' ∧ St wr' w' own' H2 ∧ VR wr' w' own' r2 v := by
      intro f z args H p r H' r2 H2 hz hh;cases z with
      | false => cases hz; exact hh
      | true =>
        refine ⟨hh.1,fun wr W own vals s hl hargs => (hh.2 wr W own vals s hl hargs).mono ?_⟩;rintro e w' ⟨v,wr',own',h1,h2,h3,h4⟩;obtain ⟨wr2,own2,q1,q2,q3⟩ := frz_sim s h2 h3 h4 hz;exact ⟨v,wr2,own2,h1,q1,q2,q3⟩
    constructor
    · intro f args H r H' h;simp only [exF] at h
      split at h
      · exact XtnOk.fok f args H r H' h
      rename_i g hg
      split at h
      · rename_i env' H2 he
        simp only [Option.bind_eq_some_iff] at h;obtain ⟨w,h1,h2⟩ := h;exact fz (p := false) h2 (run f g args H false w H2 hg ⟨_,_,he,.inl rfl,h1⟩)
      · rename_i env' H2 he
        simp only [Option.bind_eq_some_iff] at h;obtain ⟨w,h1,h2⟩ := h;exact fz (p := false) h2 (run f g args H false w H2 hg ⟨_,_,he,.inr rfl,h1⟩)
      · cases h
    · intro f args H p r H' h;simp only [exF] at h
      split at h
      · exact XtnOk.pok f args H p r H' h
      rename_i g hg
      split at h
      · rename_i env' H2 he
        simp only [Option.bind_eq_some_iff,Option.map_eq_some_iff,Prod.mk.injEq,Prod.exists] at h;obtain ⟨w,h1,r2,H3,h2,rfl,rfl,rfl⟩ := h;exact fz h2 (run f g args H false w H2 hg ⟨_,_,he,.inl rfl,h1⟩)
      · rename_i env' H2 he
        simp only [Option.bind_eq_some_iff,Option.map_eq_some_iff,Prod.mk.injEq,Prod.exists] at h;obtain ⟨w,h1,r2,H3,h2,rfl,rfl,rfl⟩ := h;exact fz h2 (run f g args H false w H2 hg ⟨_,_,he,.inr rfl,h1⟩)
      · rename_i v env' H2 he
        simp only [Option.some.injEq,Prod.mk.injEq] at h;obtain ⟨rfl,rfl,rfl⟩ := h;exact run f g args H true v H2 hg ⟨_,_,he,rfl⟩
      · cases h
theorem exF_sim [DfrOk P] [XtnOk P] {T : Nat → Option IFun} (hT : ∀ f g,T f = some g → chkF P f g = true) (k : Nat) : FSim P (exF T k) := (exF_sim2 hT k).1
theorem tbl_ok [DfrOk P] {tbl : List (Nat × IFun)} (h : tbl.all (fun p => chkF P p.1 p.2) = true) : ∀ f g,(tbl.find? (·.1 == f)).map (·.2) = some g → chkF P f g = true := by
  intro f g hf;simp only [Option.map_eq_some_iff] at hf;obtain ⟨⟨a,b⟩,hf,rfl⟩ := hf;have h1 := List.find?_some hf;have h2 := List.mem_of_find?_eq_some hf;have := List.all_eq_true.mp h _ h2
  simp at h1
  subst h1;exact this
end
instance (priority := low) noXtnOk [G : Glob] (P : Program) : @XtnOk G noXtn P := @XtnOk.mk G noXtn P (fun f args H r H' h => by cases h) (fun f args H p r H' h => by cases h)
end Go.Eng
namespace Go.Eng.Cop
open Go Go.Eng
set_option linter.unusedVariables false
set_option linter.unusedSectionVars false
set_option linter.unusedSimpArgs false
def rcv2 (caps : List V) (pv : V) (H : Heap) : Option Heap :=
  match caps,pv with
  | [.ptr b g o,.ptr b' g' o'],.ifc _ _ => (stV H (.ptr b g o) .nils none).bind fun H1 => stV H1 (.ptr b' g' o') (.bool false) none
  | _,_ => none
instance theXtn : Xtn := ⟨⟨fun _ _ _ => none,fun _ _ _ => none⟩,fun f caps v H => if f = 60 then rcv2 caps v H else none⟩
instance theXtnOk [Glob] (P : Program) : XtnOk P := ⟨fun f args H r H' h => (by cases h),fun f args H p r H' h => (by cases h)⟩
theorem idle60 (a b : Value) (w : World) : CallsD Go.Proofs.Tryd.prog 60 #[a,b] .returning w fun e u' w' => (∃ v,e = .returned v) ∧ u' = .returning ∧ w' = w := by
  refine callsD_of_wpS Go.Proofs.Tryd.func60 rfl fun c₀ cs hu => ?_
  apply wpS_seq;apply wpS_region
  simp [wpOpsS,go_sem,recoverD,hu,Go.Proofs.Tryd.ntmps60,Exit.thenS]
  apply wpS_seq;apply wpS_region
  simp [wpOpsS,go_sem,Exit.thenS]
  refine wpS_cond (t := false) (by simp [Act.eval,Array.replicate]) ?_;simp only [Bool.false_eq_true,if_false];refine wpS_of_wp (wp_skip ?_);cases c₀
  simp_all [bodyPostS,results]
def st60 : List IOp := [⟨none,none,false,.st (.t 0) (.c .nils) none⟩,⟨none,none,false,.st (.t 1) (.c (.bool false)) none⟩]
def nF : FT := ⟨fun _ _ _ => none,fun _ _ _ => none⟩
variable [Glob]
theorem nF_s {P : Program} : FSim P nF := fun f args H r H' h => by cases h
theorem nF_p {P : Program} : PSim P nF := fun f args H p r H' h => by cases h
theorem back60 {wr : Nat → Prop} {W : World} {own : Own} {H H3 : Heap} {b g o b' g' o' : Nat} {x y : Value} {ty : Nat} {val : Value} (s : St wr W own H) (h : rcv2 [.ptr b g o,.ptr b' g' o'] (.ifc ty .un) H = some H3)
    (hx : VR wr W own (.ptr b g o) x) (hy : VR wr W own (.ptr b' g' o') y) :
    CallsD Go.Proofs.Tryd.prog 60 #[x,y] (.panicking [{ v := .iface ty val,recovered := false }]) W fun e u' w' => (∃ v,e = .returned v) ∧ settle u' = .returning ∧ ∃ wr' own',Ext wr W own wr' w' own' ∧ St wr' w' own' H3 := by
  refine callsD_of_wpS Go.Proofs.Tryd.func60 rfl fun c₀ cs hu => ?_
  apply wpS_seq;apply wpS_region
  simp [wpOpsS,go_sem,recoverD,hu,Go.Proofs.Tryd.ntmps60,Exit.thenS]
  apply wpS_seq;apply wpS_region
  simp [wpOpsS,go_sem,Exit.thenS]
  refine wpS_cond (t := true) (by simp [Act.eval,Array.replicate]) ?_;simp only [if_true];refine wpS_of_wp ?_;simp only [rcv2,Option.bind_eq_some_iff] at h;obtain ⟨H1,h1,h2⟩ := h;have hex : exec nF 2 (.rgn st60) [.ptr b g o,.ptr b' g' o',.un,.un,.un,.un] H = some (.nrm,[.ptr b g o,.ptr b' g' o',.un,.un,.un,.un],H3) := by
    simp only [exec,st60,exOps,exOp,exK,Kind.quiet,Bool.false_eq_true,if_false,evw,Opd.ev,List.getD_cons_zero,List.getD_cons_succ,h1,h2,Option.map_some,put]
  refine exec_sim nF_s nF_p 2 (.rgn st60) _ (by kernel_rfl) hex (wr := wr) (own := own) ⟨s,fun t => ?_,by simp⟩ ?_
  · match t with
    | 0 => simpa using hx
    | 1 => simpa using hy
    | 2 => exact .un _
    | 3 => exact .un _
    | 4 => exact .un _
    | 5 => exact .un _
    | t + 6 => exact .un _
  · intro a' W' wr' own' e he hs hd hx;cases hx;have hres : ∃ v,(results Go.Proofs.Tryd.f60 a'.tmps).run Go.Proofs.Tryd.prog W' = .ok v W' := by
      simp [results,Go.Proofs.Tryd.f60]
    obtain ⟨v,hv⟩ := hres;exact ⟨hd,_,rfl,v,hv,⟨_,rfl⟩,rfl,wr',own',he,hs.st⟩
instance theDfr : DfrOk Go.Proofs.Tryd.prog where
  cl f := if f = 60 then some 2 else none
  fok f n h := by
    by_cases hf : f = 60
    · subst hf;exact ⟨_,Go.Proofs.Tryd.func60,by kernel_rfl,rfl⟩
    · rw [if_neg hf] at h; cases h
  ok f n h args W hs := by
    by_cases hf : f = 60
    · subst hf;rw [if_pos rfl] at h;cases h;obtain ⟨l⟩ := args
      match l,hs with
      | [a,b],_ => exact idle60 a b W
    · rw [if_neg hf] at h; cases h
  rc f n h caps pv H H3 hr wr W own args val hs s hl hc hp := by
    by_cases hf : f = 60
    · subst hf;rw [if_pos rfl] at h;cases h;obtain ⟨l⟩ := args
      match l,hs with
      | [a,b],_ =>
        have hr : rcv2 caps pv H = some H3 := hr;unfold rcv2 at hr
        split at hr
        · rename_i b1 g1 o1 b2 g2 o2 t u
          cases hp with
          | ifc hu => exact back60 s hr (hc 0 _ rfl) (hc 1 _ rfl)
        · cases hr
    · rw [if_neg hf] at h; cases h
end Go.Eng.Cop
