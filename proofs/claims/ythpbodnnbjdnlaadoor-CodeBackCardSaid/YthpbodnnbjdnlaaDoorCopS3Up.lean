/- Functions of this seat, run on unknown values by the rules of the small machine (no condition beyond those stated). -/
import Derived.Test.YthpbodnnbjdnlaaDoorEngTUp
set_option linter.unusedSectionVars false
namespace Go.Eng.Cop
open Go Go.Eng
set_option linter.unusedSectionVars false
set_option maxRecDepth 100000
theorem run23 : Fn T 29 [.ptr 2 0 0] g_b (fun v _ => v = .bool true) := by
  refine Fn.enterE t29 (e0 := (.ptr 2 0 0) :: List.replicate 136 .un) rfl ?_;show Run T i29n64 _ _ (finE none [2] _);refine Run.seq (Run.ex 60 s_r0 ?_);show Run T i29n63 f_r0 g_b _;refine Run.seq (Run.ex 60 s_r1 ?_);show Run T i29n62 f_r1 g_r1 _;refine Run.seq (Run.block ?_);show Run T (.loop bL) f_r1 g_r1 _;refine Run.loop1 (Run.ex 60 s_l0 ?_);show Run T (.loop bL) f_l0 g_l0 _;refine Run.loop1 (Run.ex 60 s_l1 ?_);show Run T (.loop bL) f_l1 g_l1 _;refine Run.loop1 (Run.ex 60 s_l2 ?_);show Run T (.loop bL) f_l2 g_l2 _;refine Run.loop1 (Run.ex 60 s_l3 ?_);show Run T (.loop bL) f_l3 g_l3 _;refine Run.loop1 (Run.ex 60 s_l4 ?_);show Run T (.loop bL) f_l4 g_l4 _;refine Run.loop1 (Run.ex 60 s_l5 ?_);show Run T i29n61 f_l5 g_l5 _;refine Run.seq (Run.seq (Run.ex 60 s_q ?_));refine Run.block ?_;show Run T (.loop bM) f_q g_q _;refine Run.loop1 (Run.ex 60 s_m0 ?_);show Run T (.loop bM) f_m0 g_m0 _;refine Run.loop1 (Run.ex 60 s_m1 ?_);show Run T (.loop bM) f_m1 g_m1 _;refine Run.loop1 (Run.ex 60 s_m2 ?_);show Run T (.loop bM) f_m2 g_m2 _;refine Run.loop1 (Run.ex 60 s_m3 ?_);show Run T (.loop bM) f_m3 g_m3 _;refine Run.loop1 (Run.ex 60 s_m4 ?_);show Run T (.loop bM) f_m4 g_m4 _;refine Run.loop1 (Run.ex 60 s_m5 ?_);show Run T i29n60 f_m5 g_m5 _;refine Run.ex 60 s_z ?_;exact ⟨.bool true,rfl,rfl⟩
theorem fn22 : Fn T 28 [.fp (E_Unit.e keepsU)] [] (fun v h => v = .ptr 2 0 0 ∧ h = g_b) := ⟨60,_,_,s_b,rfl,rfl⟩
abbrev e14 : List V := [Zl E_Unit [keepsU],.int .i64 0] ++ List.replicate 27 .un
def e14b : List V := mkE [(0,Zl E_Unit [keepsU]),(0,.int .i64 0),(2,.bool false),(0,.int .i64 0),(0,.int .i64 0),(0,.tup [.int .i64 0,.int .i64 0]),(0,Zl E_Unit [keepsU]),(0,.tup [.int .i64 0,.int .i64 0]),(0,.int .i64 0),(0,.int .i64 0)] 17
def e14a : List V := mkE [(0,Zl E_Unit [keepsU]),(0,.int .i64 0),(2,.bool false)] 24
theorem o14 : exec (exF T 60) 60 (.rgn i10r0) e14 [] = some (.nrm,e14a,[]) := by kernel_rfl
theorem p14 : exec (exF T 60) 60 (.rgn i10r1) e14a [] = some (.nrm,e14b,[]) := by kernel_rfl
def e14c : List V := mkE [(0,Zl E_Unit [keepsU]),(0,.int .i64 0),(2,.bool false),(0,.int .i64 0),(0,.int .i64 0),(0,.tup [.int .i64 0,.int .i64 0]),(0,Zl E_Unit [keepsU]),(0,.tup [.int .i64 0,.int .i64 0]),(0,.int .i64 0),(0,.int .i64 0),(0,.int .i64 0),(0,.bool false),(0,.bool false),(0,.int .i64 0),(0,.bool false),(0,.bool false),(0,.bool false),(0,.int .i64 0),(0,Zl E_Unit [keepsU]),(0,.int .i64 1),(0,.bool false),(0,.bool false)] 5
theorem q14 : exec (exF T 60) 60 i10n6 e14b [] = some (.nrm,e14c,[]) := by kernel_rfl
end Go.Eng.Cop
namespace Go.Eng.Cop
open Go Go.Eng
set_option linter.unusedSectionVars false
set_option maxRecDepth 100000
theorem sound0 : Fn T 10 [Zl E_Unit [keepsU],.int .i64 0] [] (fun v _ => v = .bool true) := by
  refine Fn.enterE t10 (e0 := e14) rfl ?_;show Run T i10n11 _ _ (finE none [4] _);refine Run.seq (Run.ex 60 o14 ?_);show Run T i10n10 e14a [] _;refine Run.seq (Run.seq (Run.ex 60 p14 ?_));show Run T i10n6 e14b [] _;refine Run.ex 60 q14 ?_;show Run T i10n9 e14c [] _;refine Run.seq (Run.rgn ?_);refine RunO.tk 3 (by kernel_rfl) ?_;refine RunO.h1 (us := [.fp (E_Unit.e keepsU)]) (n := 28) (caps := []) (by kernel_rfl) rfl (by kernel_rfl) (fn22.mono ?_);rintro v h ⟨rfl,rfl⟩;refine RunO.h1 (us := [.ptr 2 0 0]) (n := 29) (caps := []) (by kernel_rfl) rfl (by kernel_rfl) (run23.mono ?_);rintro v h rfl;refine RunO.tk 1 (by kernel_rfl) (RunO.nil ?_);refine Run.ret ?_;exact ⟨.bool true,by kernel_rfl,rfl⟩
theorem c10 {x0 : List T_Unit} {u : Int} {r : Bool} (h : F10 x0 u = some r) (s : Bool) : Fn T 10 [Zl E_Unit x0,.int .i64 u] [] (fun v hh => deep s hh deepN v = some (EB.e r)) := by
  unfold F10 at h
  split at h
  · rename_i hx; obtain ⟨rfl,rfl⟩ := hx; cases h
    exact sound0.mono fun v hh hv => by rw [hv]; rfl
  · split at h
    · rename_i hx; obtain ⟨rfl,rfl⟩ := hx; cases h
      have h1 := sound1;cases he : exF T 60 10 [Zl E_Unit [keepsU],.int .i64 1] [] with
      | none => rw [he] at h1; cases h1
      | some q =>
        rw [he] at h1;have h2 : q.1 = .bool false := Option.some.inj h1;refine ⟨60,q.1,q.2,he,?_⟩;rw [h2]; rfl
    · cases h
end Go.Eng.Cop
namespace Go.Eng
open Go
set_option linter.unusedSectionVars false
set_option linter.unusedVariables false
set_option linter.unusedSimpArgs false
variable [Xtn]
def FnX (T : Nat → Option IFun) (f : Nat) (args : List V) (H : Heap) (Q : Bool → V → Heap → Prop) : Prop := ∃ k p r H',(exF T k).x f args H = some (p,r,H') ∧ Q p r H'
def RunX (T : Nat → Option IFun) (ops : List IOp) (env : List V) (H : Heap) (Q : Option V → List V → Heap → Prop) : Prop := ∃ k p e h,exOpsX (exF T k) ops env H = some (p,e,h) ∧ Q p e h
theorem FnX.mono {T : Nat → Option IFun} {f : Nat} {args : List V} {H : Heap} {Q Q' : Bool → V → Heap → Prop} (h : FnX T f args H Q) (hq : ∀ p r h,Q p r h → Q' p r h) : FnX T f args H Q' := by
  obtain ⟨k,p,r,H',h1,h2⟩ := h; exact ⟨k,p,r,H',h1,hq _ _ _ h2⟩
def qX (Q : X → List V → Heap → Prop) : Option V → List V → Heap → Prop
  | none,e,h => Q .nrm e h
  | some v,e,h => Q (.pan v) e h
section
variable {T : Nat → Option IFun} {env : List V} {H : Heap}
theorem Run.rgp {ops : List IOp} {Q : X → List V → Heap → Prop} (h : RunX T ops env H (qX Q)) : Run T (.rgp ops) env H Q := by
  obtain ⟨k,p,e,H',h1,h2⟩ := h;cases p with
  | none => exact ⟨k + 1,.nrm,e,H',by simp only [exec,exOpsX_mono (exF_mono k (Nat.le_succ k)) h1],h2⟩
  | some v => exact ⟨k + 1,.pan v,e,H',by simp only [exec,exOpsX_mono (exF_mono k (Nat.le_succ k)) h1],h2⟩
theorem Run.rpn {ops : List IOp} {x : Opd} {Q : X → List V → Heap → Prop} (h : RunO T ops env H (fun e h => ∃ t v,x.ev e = .ifc t v ∧ Q (.pan (.ifc t v)) e h)) : Run T (.rpn ops x) env H Q := by
  obtain ⟨k,e,H',h1,t,v,h2,h3⟩ := h;exact ⟨k + 1,_,e,H',by simp only [exec,exOps_mono (exF_mono k (Nat.le_succ k)) h1,h2],h3⟩
theorem RunX.nil {Q : Option V → List V → Heap → Prop} (h : Q none env H) : RunX T [] env H Q := ⟨0,_,_,_,rfl,h⟩
theorem RunX.opX {o : IOp} {r : List IOp} {env1 : List V} {H1 : Heap} {Q : Option V → List V → Heap → Prop} (h : ∃ k,exOpX (exF T k) o env H = some (none,env1,H1)) (hr : RunX T r env1 H1 Q) : RunX T (o :: r) env H Q := by
  obtain ⟨k,h⟩ := h;obtain ⟨k2,p,e,H2,h1,h2⟩ := hr;refine ⟨max k k2,p,e,H2,?_,h2⟩;simp only [exOpsX,exOpX_mono (exF_mono k (show k ≤ max k k2 by omega)) h,exOpsX_mono (exF_mono k2 (show k2 ≤ max k k2 by omega)) h1]
theorem exKX_noF {F : FT} {o : IOp} {r : List V × Heap} (h : exK noF o env H = some r) : exKX F o env H = some (none,r.1,r.2) := by
  unfold exKX
  split
  · rename_i hp f args hk
    exfalso
    unfold exK at h;rw [hk] at h;cases hp with
    | true =>
      simp only [Kind.quiet,Bool.false_eq_true,if_false,evw,hcall] at h
      split at h <;> simp [noF] at h
    | false =>
      simp only [Kind.quiet,if_true,evq,pcall] at h
      split at h <;> simp [noF] at h
  · rw [exK_mono (noF_le F) h]; rfl
theorem exOpX_noF {F : FT} {o : IOp} {r : List V × Heap} (h : exOp noF o env H = some r) : exOpX F o env H = some (none,r.1,r.2) := by
  unfold exOp at h;unfold exOpX;cases hg : o.guard with
  | none => rw [hg] at h; exact exKX_noF h
  | some p =>
    obtain ⟨t,w⟩ := p;rw [hg] at h
    dsimp only at h ⊢
    cases hv : env.getD t .un <;> rw [hv] at h <;> dsimp only at h ⊢ <;> (try (cases h; done))
    · cases h; rfl
    · split at h
      · rename_i hb; rw [if_pos hb]; exact exKX_noF h
      · rename_i hb; rw [if_neg hb]; cases h; rfl
theorem RunX.app0 : ∀ {a b : List IOp} {env : List V} {H : Heap} {e : List V} {h : Heap} {Q : Option V → List V → Heap → Prop},exOps noF a env H = some (e,h) → RunX T b e h Q → RunX T (a ++ b) env H Q
  | [],b,env,H,e,h,Q,h1,hr => by
    simp only [exOps,Option.some.injEq,Prod.mk.injEq] at h1;obtain ⟨rfl,rfl⟩ := h1; exact hr
  | o :: a,b,env,H,e,h,Q,h1,hr => by
    simp only [exOps] at h1
    split at h1
    · rename_i e1 H1 h2
      exact RunX.opX ⟨0,exOpX_noF h2⟩ (RunX.app0 h1 hr)
    · cases h1
theorem RunX.tk (n : Nat) {ops : List IOp} {Q : Option V → List V → Heap → Prop} (h : exOps noF (ops.take n) env H = some (envAfter (ops.take n) env H,H)) (hr : RunX T (ops.drop n) (envAfter (ops.take n) env H) H Q) : RunX T ops env H Q := by
  have := RunX.app0 h hr
  rwa [List.take_append_drop] at this
theorem RunX.p1 {d : Option Nat} {g : Option (Nat × Bool)} {lo : Bool} {k : Kind} {r : List IOp} {Q : Option V → List V → Heap → Prop} {v : Option V} {u : V} (hg : gdB env g = true) (hq : k.quiet = true) (h : evq noF env (if lo then [] else H) k = v) (hv : v = some u) (hr : RunX T r (put env d u) H Q) :
    RunX T (⟨d,g,lo,k⟩ :: r) env H Q := by
  subst h;refine RunX.opX ⟨0,exOpX_noF (o := ⟨d,g,lo,k⟩) (r := (put env d u,H)) ?_⟩ hr;rw [exOp_gd hg];simp only [exOp,exK,hq,if_true,hv]; rfl
theorem RunX.w1 {d : Option Nat} {g : Option (Nat × Bool)} {lo : Bool} {k : Kind} {r : List IOp} {Q : Option V → List V → Heap → Prop} {v : Option (V × Heap)} {u : V} {H1 : Heap} (hg : gdB env g = true) (hq : k.quiet = false) (h : evw noF env H k = v) (hv : v = some (u,H1)) (hr : RunX T r (put env d u) H1 Q) :
    RunX T (⟨d,g,lo,k⟩ :: r) env H Q := by
  subst h;refine RunX.opX ⟨0,exOpX_noF (o := ⟨d,g,lo,k⟩) (r := (put env d u,H1)) ?_⟩ hr;rw [exOp_gd hg];simp only [exOp,exK,hq,Bool.false_eq_true,if_false,hv]; rfl
theorem RunX.st {L : List Ob} {d : Option Nat} {g : Option (Nat × Bool)} {lo : Bool} {a x : Opd} {n : Sh} {r : List IOp} {Q : Option V → List V → Heap → Prop} (hp : HP H L) (hg : gdB env g = true) (i : Nat) {b gn off : Nat} {cs cs' : List V} {v : V} (hi : L[i]? = some (some (b,gn),cs))
    (ha : a.ev env = .ptr b gn off) (hx : x.ev env = v) (hs : stC cs off v n = some cs') (hr : ∀ H1,HP H1 (L.set i (some (b,gn),cs')) → RunX T r (put env d .sk) H1 Q) : RunX T (⟨d,g,lo,.st a x n⟩ :: r) env H Q := by
  refine RunX.w1 (u := .sk) (H1 := H.set b (gn,cs')) hg rfl rfl ?_ (hr _ (hp.set hi _ _));show (stV H (a.ev env) (x.ev env) n).map _ = _;rw [ha,hx,hp.st i hi hs]; rfl
theorem RunX.h1 {d : Option Nat} {g : Option (Nat × Bool)} {f : Opd} {n : Nat} {caps us : List V} {args : List Opd} {r : List IOp} {Q : Option V → List V → Heap → Prop} (hg : gdB env g = true) (hf : f.ev env = .fn n caps) (ha : args.map (·.ev env) ++ caps = us)
    (hc : FnX T n us H (fun p v H' => if p then Q (some v) env H' else RunX T r (put env d v) H' Q)) : RunX T (⟨d,g,false,.call true f args⟩ :: r) env H Q := by
  subst ha;obtain ⟨k,p,v,H',hk,h⟩ := hc;have hgd : ∀ (F : FT),exOpX F ⟨d,g,false,.call true f args⟩ env H = exKX F ⟨d,g,false,.call true f args⟩ env H := by
    intro F;cases g with
    | none => rfl
    | some q =>
      obtain ⟨t,w⟩ := q;simp only [gdB] at hg
      split at hg
      · rename_i b hb
        rw [beq_iff_eq] at hg; subst hg;simp only [exOpX,hb,if_true]
      · cases hg
  have hkx : exKX (exF T k) ⟨d,g,false,.call true f args⟩ env H = some (if p then (some v,env,H') else (none,put env d v,H')) := by
    simp only [exKX,Bool.false_eq_true,if_false,callX,if_true,hf,hk,Option.map_some]
  cases p with
  | true => exact ⟨k,some v,env,H',by simp only [exOpsX,hgd,hkx,if_true],h⟩
  | false =>
    refine RunX.opX ⟨k,?_⟩ h;rw [hgd,hkx]; rfl
theorem RunX.done {ts : List Nat} {b : Ir} {Q : X → List V → Heap → Prop} {e' : List V} (he : clrEnv ts env = e') (h : Run T b e' H Q) : RunX T [] env H (qX (thn T (.clr ts b) Q)) := RunX.nil (Run.clr (he ▸ h))
end
def stpP {σ R A : Type} (ts : List Nat) (I : σ → List V → Heap → Prop) (RR : R → X → List V → Heap → Prop) (J : A → Nat → List V → Heap → Prop) : Stp σ R A → X → List V → Heap → Prop
  | .next s,.nrm,e,h => I s (clrEnv ts e) h
  | .ret r,x,e,h => RR r x e h
  | .go a,.ext i,e,h => J a i e h
  | _,_,_,_ => False
def ovrP {R A : Type} (RR : R → X → List V → Heap → Prop) (J : A → Nat → List V → Heap → Prop) : Out R A → X → List V → Heap → Prop
  | .ret r,x,e,h => RR r x e h
  | .go a,.ext i,e,h => J a i e h
  | _,_,_,_ => False
theorem Run.iterP {T : Nat → Option IFun} {σ R A : Type} {f : σ → Option (Stp σ R A)} {ts : List Nat} {b : Ir} {I : σ → List V → Heap → Prop} {RR : R → X → List V → Heap → Prop} {J : A → Nat → List V → Heap → Prop} (hn : ∀ r e h,¬ RR r .nrm e h)
    (hb : ∀ s e h t,I s e h → f s = some t → Run T b e h (stpP ts I RR J t)) : ∀ (n : Nat) {s : σ} {o : Out R A} {env : List V} {H : Heap},Go.Eng.iter f n s = some o → I s (clrEnv ts env) H → Run T (.loop (.clr ts b)) env H (ovrP RR J o)
  | 0,s,o,env,H,h,_ => by cases h
  | n + 1,s,o,env,H,h,hI => by
    rw [iter_succ] at h;refine Run.loop1 (Run.clr ?_);cases hf : f s with
    | none => rw [hf] at h; cases h
    | some t =>
      rw [hf] at h;refine (hb s _ H t hI hf).mono fun x e h' hx => ?_
      cases t with
      | next s' =>
        cases x with
        | nrm => exact Run.iterP hn hb n h hx
        | ret => exact hx.elim
        | ext i => exact hx.elim
        | pan v => exact hx.elim
      | ret r =>
        cases h;cases x with
        | nrm => exact (hn _ _ _ hx).elim
        | ret => exact hx
        | ext i => exact hx
        | pan v => exact hx
      | go a =>
        cases h;cases x with
        | nrm => exact hx.elim
        | ret => exact hx.elim
        | ext i => exact hx
        | pan v => exact hx.elim
def finP (cs : Option (List (Option Sh))) (res : List Nat) (QF : Bool → V → Heap → Prop) : X → List V → Heap → Prop
  | .ext _,_,_ => False
  | .pan v,_,h => QF true v h
  | _,e,h => endR cs res (QF false) e h
def retP (cs : Option (List (Option Sh))) (res : List Nat) (QF : Bool → V → Heap → Prop) : X → List V → Heap → Prop
  | .nrm,_,_ => False
  | x,e,h => finP cs res QF x e h
theorem FnX.enterE {T : Nat → Option IFun} {f : Nat} {g : IFun} {args e0 : List V} {H : Heap} {QF : Bool → V → Heap → Prop} (hT : T f = some g) (he : args ++ List.replicate (g.ntmps - args.length) .un = e0) (h : Run T g.body e0 H (finP g.body.cells g.res QF)) (hz : g.body.isFrz = false := by rfl) : FnX T f args H QF := by
  subst he;obtain ⟨k,x,e,H',h1,h2⟩ := h;cases x with
  | nrm => obtain ⟨v,h3,h4⟩ := h2; exact ⟨k + 1,false,_,_,by simp only [exF,hT,h1,h3,Option.bind_some,Option.map_some,hz,frzR],h4⟩
  | ret => obtain ⟨v,h3,h4⟩ := h2; exact ⟨k + 1,false,_,_,by simp only [exF,hT,h1,h3,Option.bind_some,Option.map_some,hz,frzR],h4⟩
  | ext i => exact h2.elim
  | pan v => exact ⟨k + 1,true,_,_,by simp only [exF,hT,h1],h2⟩
def pnd {α β : Type} (o : Option (Option α)) (f : α → Option (Option β)) : Option (Option β) := o.bind fun | none => some none | some a => f a
def pndL {α σ β A : Type} (o : Option (Option α)) (f : α → Option (Stp σ (Option β) A)) : Option (Stp σ (Option β) A) := o.bind fun | none => some (.ret none) | some a => f a
theorem pnd_some {α β : Type} {o : Option (Option α)} {f : α → Option (Option β)} {t : Option β} (h : pnd o f = some t) : (o = some none ∧ t = none) ∨ ∃ a,o = some (some a) ∧ f a = some t := by
  unfold pnd at h;cases o with
  | none => cases h
  | some q => cases q with
    | none => exact .inl ⟨rfl,(Option.some.inj h).symm⟩
    | some a => exact .inr ⟨a,rfl,h⟩
theorem pndL_some {α σ β A : Type} {o : Option (Option α)} {f : α → Option (Stp σ (Option β) A)} {t : Stp σ (Option β) A} (h : pndL o f = some t) : (o = some none ∧ t = .ret none) ∨ ∃ a,o = some (some a) ∧ f a = some t := by
  unfold pndL at h;cases o with
  | none => cases h
  | some q => cases q with
    | none => exact .inl ⟨rfl,(Option.some.inj h).symm⟩
    | some a => exact .inr ⟨a,rfl,h⟩
section
variable {T : Nat → Option IFun} {env : List V} {H : Heap} {L : List Ob}
theorem RunX.alloc {d : Option Nat} {g : Option (Nat × Bool)} {lo : Bool} {zc : List V} {r : List IOp} {Q : Option V → List V → Heap → Prop} (hp : HP H L) (hg : gdB env g = true)
    (hr : ∀ b H1,HP H1 ((some (b,0),zc) :: L) → RunX T r (put env d (.ptr b 0 0)) H1 Q) : RunX T (⟨d,g,lo,.alloc zc⟩ :: r) env H Q :=
  RunX.w1 hg rfl rfl rfl (hr _ _ (hp.new zc))
theorem RunX.boxh {d : Option Nat} {g : Option (Nat × Bool)} {lo : Bool} {x : Opd} {v : V} {r : List IOp} {Q : Option V → List V → Heap → Prop} (hp : HP H L) (hg : gdB env g = true) (hx : x.ev env = v) (hb : boxOk v = true)
    (hr : ∀ b H1,HP H1 ((some (b,0),v.cells) :: L) → RunX T r (put env d (.ptr b 0 0)) H1 Q) : RunX T (⟨d,g,lo,.box x false⟩ :: r) env H Q := by
  subst hx;exact RunX.w1 hg rfl rfl (if_pos hb) (hr _ _ (hp.new _))
theorem RunX.app1 {α : Type} (E : Enc α) {L : List Ob} {d : Option Nat} {g : Option (Nat × Bool)} {lo : Bool} {s x : Opd} {by_ : Nat} {r : List IOp} {Q : Option V → List V → Heap → Prop} (hp : HP H L) (hg : gdB env g = true) (i : Nat) {o : Option (Nat × Nat)} {l l' m : List α} {rest : List V} {z : Nat} {ag : Bool} (hi : L[i]? = some (o,l.flatMap E.c ++ rest))
    (hs : s.ev env = slv E.z E.ag l.length o) {xv : V} (hxe : x.ev env = xv) (hx : newCells H xv E.z = some (m.flatMap E.c,m.length)) (hz : z = E.z) (ha : ag = E.ag) (h : more by_ l m = some l')
    (hr : ∀ o' H1,HP H1 (L.set i (o',l'.flatMap E.c ++ [])) → RunX T r (put env d (slv E.z E.ag l'.length o')) H1 Q) : RunX T (⟨d,g,lo,.app s x z ag by_⟩ :: r) env H Q := by
  subst hz; subst ha; subst hxe;obtain ⟨o',H1,h1,h2⟩ := own_app E hp i hi hx h;exact RunX.w1 hg rfl (by show appV H (s.ev env) (x.ev env) _ _ _ = _; rw [hs]) h1 (hr o' H1 h2)
end
theorem slcm_fz0 {α : Type} (E : Enc α) {l l' : List α} {hi : Int} (k' : IntKind) (hz : E.z ≠ 0) (h : part l 0 hi = some l') : slcmV (.fz (l.map E.e)) none (.int k' hi) (.int k' hi) E.z = some (.fz (l'.map E.e)) := by
  have := slc_fz0 E k' hz h;simp only [slcV,slcmV,bndV,Option.bind_some] at this ⊢
  by_cases h0 : 0 ≤ hi
  · rw [if_pos h0] at this ⊢;simp only [Option.bind_some] at this ⊢
    split at this
    · rename_i hc
      rw [if_pos ⟨hc.1,hc.2.1,Nat.le_refl _,hc.2.2.1,hc.2.2.2⟩]; exact this
    · cases this
  · rw [if_neg h0] at this; cases this
end Go.Eng
namespace Go.Eng
open Go
set_option linter.unusedSectionVars false
set_option linter.unusedVariables false
set_option linter.unusedSimpArgs false
variable [Xtn]
def loF (o : IOp) : IOp := { o with lo := false }
theorem exOp_shape {F : FT} {o : IOp} {env env' : List V} {H H' : Heap} (h : exOp F o env H = some (env',H')) : (∃ v,env' = put env o.dst v) ∧ (o.k.quiet = true → H' = H) := by
  obtain ⟨v,h1,h2,_⟩ := exOp_congr h (fun t _ => rfl) (fun _ => rfl);exact ⟨⟨v,h1⟩,h2⟩
theorem put_getD {env : List V} {d : Option Nat} {v : V} {t : Nat} (h : d ≠ some t) : (put env d v).getD t .un = env.getD t .un := by
  cases d with
  | none => rfl
  | some d =>
    have hne : d ≠ t := fun e => h (by rw [e])
    simp [put,List.getD,List.getElem?_set_ne hne]
theorem exOps_keep {F : FT} : ∀ (l : List IOp) {env e : List V} {H h : Heap} {t : Nat},exOps F l env H = some (e,h) → (∀ o ∈ l,o.dst ≠ some t) → e.getD t .un = env.getD t .un
  | [],env,e,H,h,t,he,_ => by simp only [exOps,Option.some.injEq,Prod.mk.injEq] at he; rw [he.1]
  | o :: r,env,e,H,h,t,he,ht => by
    simp only [exOps] at he
    split at he
    · rename_i e1 h1 h2
      obtain ⟨⟨v,hv⟩,_⟩ := exOp_shape h2;rw [exOps_keep r he (fun x hx => ht x (by simp [hx])),hv,put_getD (ht o (by simp))]
    · cases he
theorem pre0 {F : FT} {H0 : Heap} : ∀ (a : List IOp) {env env1 : List V} {H1 : Heap},(∀ o ∈ a,o.k.quiet = true) → exOps F (a.map loF) env H0 = some (env1,H1) → H1 = H0 ∧ ∀ (b : List IOp) (tr : List (List V × Heap)),exOps0 F H0 b env1 H0 = some tr →
    ∃ ta : List (List V × Heap),ta.length = a.length ∧ exOps0 F H0 (a ++ b) env H0 = some (ta ++ tr) ∧ ∀ (i : Nat) (p : List V × Heap),ta[i]? = some p → p.2 = H0 ∧ ∀ t,(∀ o ∈ a.drop i,o.dst ≠ some t) → p.1.getD t .un = env1.getD t .un
  | [],env,env1,H1,_,h => by
    simp only [List.map_nil,exOps,Option.some.injEq,Prod.mk.injEq] at h;obtain ⟨rfl,rfl⟩ := h;exact ⟨rfl,fun b tr hb => ⟨[],rfl,hb,fun i p hp => by simp at hp⟩⟩
  | o :: r,env,env1,H1,hq,h => by
    have hall := h;simp only [List.map_cons,exOps] at h
    split at h
    case h_2 => cases h
    rename_i e1 h1 h2
    obtain ⟨⟨v,hv⟩,hh⟩ := exOp_shape h2;have hqo : o.k.quiet = true := hq o (by simp);have hh1 : h1 = H0 := hh hqo;subst hh1;obtain ⟨k1,k2⟩ := pre0 r (fun x hx => hq x (by simp [hx])) h;refine ⟨k1,fun b tr hb => ?_⟩;obtain ⟨ta,l1,l2,l3⟩ := k2 b tr hb;refine ⟨(env,h1) :: ta,by simp [l1],?_,?_⟩
    · have h0 : exOp0 F h1 o env h1 = some (e1,h1) := by
        unfold exOp0;cases hl : o.lo with
        | true =>
          simp only [if_true,hqo];have : exOp F { o with lo := false } env h1 = some (e1,h1) := h2;rw [this]; rfl
        | false =>
          simp only [Bool.false_eq_true,if_false];have : loF o = o := by cases o; simp only [loF]; simp only at hl; rw [hl]
          rw [← this]; exact h2
      simp only [List.cons_append,exOps0,h0,l2]
    · intro i p hp;cases i with
      | zero =>
        simp only [List.getElem?_cons_zero,Option.some.injEq] at hp;subst hp;refine ⟨rfl,fun t ht => ?_⟩;refine (exOps_keep _ hall (t := t) (fun x hx => ?_)).symm;obtain ⟨y,hy,rfl⟩ := List.mem_map.mp hx;exact ht y (by simpa using hy)
      | succ i => exact l3 i p (by simpa using hp)
theorem post0 {F : FT} {H0 : Heap} : ∀ (b : List IOp) {env e : List V} {H h : Heap},(∀ o ∈ b,o.lo = false) → exOps F b env H = some (e,h) →
    ∃ tr,exOps0 F H0 b env H = some tr ∧ tr.getLast? = some (e,h) ∧ tr.length = b.length + 1 ∧ ∀ m,(∀ o ∈ b.take m,o.k.quiet = true) → ∀ p ∈ tr.take (m + 1),p.2 = H
  | [],env,e,H,h,_,he => by
    simp only [exOps,Option.some.injEq,Prod.mk.injEq] at he;obtain ⟨rfl,rfl⟩ := he;exact ⟨[(env,H)],rfl,rfl,rfl,fun m _ p hp => by simp at hp; rw [hp]⟩
  | o :: r,env,e,H,h,hl,he => by
    simp only [exOps] at he
    split at he
    case h_2 => cases he
    rename_i e1 h1 h2
    obtain ⟨tr,t1,t2,t3,t4⟩ := post0 (H0 := H0) r (fun x hx => hl x (by simp [hx])) he;refine ⟨(env,H) :: tr,?_,?_,by simp [t3],fun m hm p hp => ?_⟩
    · have h0 : exOp0 F H0 o env H = some (e1,h1) := by
        unfold exOp0;rw [if_neg (by rw [hl o (by simp)]; simp)]; exact h2
      simp only [exOps0,h0,t1]
    · rw [List.getLast?_cons,t2]; rfl
    · cases m with
      | zero => simp at hp; rw [hp]
      | succ m =>
        have hqo : o.k.quiet = true := hm o (by simp);have hh : h1 = H := (exOp_shape h2).2 hqo;subst hh;rw [List.take_succ_cons] at hp;rcases List.mem_cons.mp hp with hp | hp
        · rw [hp]
        · exact t4 m (fun x hx => hm x (by simp [hx])) p hp
theorem stays_of {F : FT} {H0 : Heap} {hs : List Heap} : ∀ {ls : List Nat} {ops : List IOp} {tr : List (List V × Heap)},ls.length = ops.length → (∀ (i n : Nat) (o : IOp) (p : List V × Heap),ls[i]? = some n → ops[i]? = some o → tr[i]? = some p → o.lo = true → (hs.take (n + 1)).all (stayOp F H0 o p.1) = true) → stays F H0 hs ls ops tr = true
  | [],[],_,_,_ => rfl
  | _ :: _,[],_,hl,_ => by simp at hl
  | [],_ :: _,_,hl,_ => by simp at hl
  | n :: ls,o :: r,[],_,_ => rfl
  | n :: ls,o :: r,p :: tr,hl,h => by
    simp only [stays,Bool.and_eq_true,Bool.or_eq_true,Bool.not_eq_true'];refine ⟨?_,stays_of (by simpa using hl) (fun i n' o' p' h1 h2 h3 h4 => h (i + 1) n' o' p' (by simpa using h1) (by simpa using h2) (by simpa using h3) h4)⟩;cases hlo : o.lo with
    | false => exact .inl rfl
    | true => exact .inr (h 0 n o p rfl rfl rfl hlo)
def chkRow (s : Nat) (ls : List Nat) (ops : List IOp) : Bool :=
  ls.length == ops.length && (ops.take s).all (fun o => o.k.quiet) && (ops.drop s).all (fun o => !o.lo) &&
  (List.range s).all (fun i => match ops[i]?,ls[i]? with
    | some o,some n => !o.lo || (o.guard.isNone && ((ops.take n).drop (s + 1)).all (fun x => x.k.quiet) && ((ops.take s).drop i).all (fun x => match x.dst with | some t => !o.k.tm.contains t | none => true))
    | _,_ => false)
def stayK (env : List V) (H H1 : Heap) (k : Kind) : Bool := match evq noF env H1 k,evq noF env H k with | some a,some b => V.eqb deepN a b | _,_ => false
def los (s : Nat) (ops : List IOp) : List Kind := (ops.take s).filterMap fun o => if o.lo then some o.k else none
section
variable {T : Nat → Option IFun} {env : List V} {H : Heap}
theorem row1 {F : FT} {s : Nat} {ls : List Nat} {ops : List IOp} {env1 env2 : List V} {H1 H2 : Heap} {v : V} {d : Option Nat} {f : Opd} {args : List Opd} (hc : chkRow s ls ops = true) (hpre : exOps F ((ops.take s).map loF) env H = some (env1,H))
    (ho : ops[s]? = some ⟨d,none,false,.call true f args⟩) (hcall : hcall F H (f.ev env1) (args.map (·.ev env1)) = some (v,H1)) (hst : ∀ k ∈ los s ops,stayK env1 H H1 k = true) (hst0 : ∀ k ∈ los s ops,stayK env1 H H k = true)
    (hrest : exOps F (ops.drop (s + 1)) (put env1 d v) H1 = some (env2,H2)) :
    ∃ tr,exOps0 F H ops env H = some tr ∧ stays F H (tr.map (·.2)) ls ops tr = true ∧ tr.getLast? = some (env2,H2) := by
  simp only [chkRow,Bool.and_eq_true,beq_iff_eq,List.all_eq_true,Bool.not_eq_true',List.mem_range] at hc;obtain ⟨⟨⟨hll,hq⟩,hlo⟩,hrow⟩ := hc;have hs : s < ops.length := (List.getElem?_eq_some_iff.mp ho).1;have hsplit : ops = ops.take s ++ (⟨d,none,false,.call true f args⟩ :: ops.drop (s + 1)) := by
    have h1 := List.take_append_drop s ops;rw [List.drop_eq_getElem_cons hs] at h1;rw [(List.getElem?_eq_some_iff.mp ho).2] at h1;exact h1.symm
  obtain ⟨tr2,u1,u2,u3,u4⟩ := post0 (H0 := H) (ops.drop (s + 1)) (fun o h => hlo o (by rw [List.drop_eq_getElem_cons hs]; exact List.mem_cons_of_mem _ h)) hrest;have hcl : exOp0 F H ⟨d,none,false,.call true f args⟩ env1 H = some (put env1 d v,H1) := by
    simp only [exOp0,Bool.false_eq_true,if_false,exOp,exK,Kind.quiet,evw,hcall,Option.map_some]
  have hb : exOps0 F H (⟨d,none,false,.call true f args⟩ :: ops.drop (s + 1)) env1 H = some ((env1,H) :: tr2) := by
    simp only [exOps0,hcl,u1]
  obtain ⟨_,k2⟩ := pre0 (ops.take s) (fun o h => hq o h) hpre;obtain ⟨ta,l1,l2,l3⟩ := k2 _ _ hb;rw [← hsplit] at l2;refine ⟨ta ++ (env1,H) :: tr2,l2,?_,by rw [List.getLast?_append,List.getLast?_cons,u2]; rfl⟩;have htl : ta.length = s := by rw [l1,List.length_take]; omega
  refine stays_of hll (fun i n o p hn hoi hp hol => ?_);have his : i < s := by
    rcases Nat.lt_or_ge i s with h | h
    · exact h
    · exfalso
      have : o ∈ ops.drop s := List.mem_of_getElem? (i := i - s) (by rw [List.getElem?_drop,show s + (i - s) = i by omega]; exact hoi);rw [hlo o this] at hol; cases hol
  have hr := hrow i his;rw [hoi,hn] at hr;simp only [hol,Bool.not_true,Bool.false_or,Bool.and_eq_true,Option.isNone_iff_eq_none,List.all_eq_true] at hr;obtain ⟨⟨hg,hqs⟩,htm⟩ := hr;have hpt : ta[i]? = some p := by rwa [List.getElem?_append_left (by omega)] at hp
  obtain ⟨p2,pv⟩ := l3 i p hpt;have hag : Agree p.1 env1 o.k.tm := fun t ht => pv t (fun x hx hd => by
    have := htm x hx;rw [hd] at this
    simp at this
    exact this ht)
  have hk : o.k ∈ los s ops := List.mem_filterMap.mpr ⟨o,List.mem_of_getElem? (i := i) (by rw [List.getElem?_take,if_pos his]; exact hoi),by simp [hol]⟩;have stay : ∀ h,stayK env1 H h o.k = true → stayOp F H o p.1 h = true := by
    intro h hk;unfold stayK at hk;unfold stayOp;rw [hg];simp only [gdR,Bool.not_true,Bool.false_or]
    split at hk
    · rename_i a b ha hb
      rw [evq_congr hag (fun _ => rfl),evq_congr (H := H) hag (fun _ => rfl),evq_mono (noF_le F) ha,evq_mono (noF_le F) hb]; exact hk
    · cases hk
  rw [List.all_eq_true];intro h hh;rw [← List.map_take] at hh;obtain ⟨q,hq2,rfl⟩ := List.mem_map.mp hh;rw [List.take_append] at hq2;rcases List.mem_append.mp hq2 with hq3 | hq3
  · obtain ⟨j,hj,hjq⟩ := List.getElem_of_mem hq3;have : ta[j]? = some q := by
      have := List.getElem?_eq_getElem hj;rw [hjq,List.getElem?_take] at this
      split at this
      · exact this
      · cases this
    rw [(l3 j q this).1];exact stay H (hst0 _ hk)
  · rw [htl] at hq3;cases hm : n + 1 - s with
    | zero => rw [hm] at hq3; simp at hq3
    | succ m =>
      rw [hm,List.take_succ_cons] at hq3;rcases List.mem_cons.mp hq3 with hq4 | hq4
      · rw [hq4]; exact stay H (hst0 _ hk)
      · cases m with
        | zero => simp at hq4
        | succ m =>
          have := u4 m (fun x hx => hqs x (by
            rw [List.drop_take];have e : n - (s + 1) = m := by omega
            rw [e]; exact hx)) q hq4
          rw [this];exact stay H1 (hst _ hk)
theorem x_n {g : Nat} {gi : IFun} (hg : T g = some gi) : ∀ {k : Nat} {us : List V} {v : V} {H1 : Heap},(exF T k).x g us H = some (false,v,H1) → (exF T k).n g us H = some (v,H1)
  | 0,us,v,H1,h => by simp [exF] at h
  | k + 1,us,v,H1,h => by
    simp only [exF,hg] at h ⊢
    split at h
    · rename_i env' H2 he
      rw [he];simp only [Option.bind_eq_some_iff,Option.map_eq_some_iff,Prod.mk.injEq,true_and,Prod.exists] at h;obtain ⟨w,h1,a,b,h2,rfl,rfl⟩ := h;simp only [h1,Option.bind_some]; exact h2
    · rename_i env' H2 he
      rw [he];simp only [Option.bind_eq_some_iff,Option.map_eq_some_iff,Prod.mk.injEq,true_and,Prod.exists] at h;obtain ⟨w,h1,a,b,h2,rfl,rfl⟩ := h;simp only [h1,Option.bind_some]; exact h2
    · simp at h
    · cases h
def midRowX (T : Nat → Option IFun) (s : Nat) (ops : List IOp) (env e1 : List V) (H : Heap) (Q : X → List V → Heap → Prop) : Prop :=
  (∀ k ∈ los s ops,stayK e1 H H k = true) ∧ ∃ d f args g gi caps us,ops[s]? = some ⟨d,none,false,.call true f args⟩ ∧ T g = some gi ∧ f.ev e1 = .fn g caps ∧ args.map (·.ev e1) ++ caps = us ∧
    FnX T g us H (fun p v H1 => if p then Q (.pan v) (clrEnv (ops.filterMap (·.dst)) env) H1 else (∀ k ∈ los s ops,stayK e1 H H1 k = true) ∧ RunO T (ops.drop (s + 1)) (put e1 d v) H1 (fun e h => Q .nrm e h))
theorem Run.rdp1 {s : Nat} {ls : List Nat} {ops : List IOp} {Q : X → List V → Heap → Prop} (hc : chkRow s ls ops = true) (h : RunO T ((ops.take s).map loF) env H (fun e1 _ => midRowX T s ops env e1 H Q)) : Run T (.rdp s ls ops) env H Q := by
  obtain ⟨k,e1,h1,hpre,h0,d,f,args,g,gi,caps,us,ho,hg,hf,rfl,k2,p,v,H1,hcall,hq⟩ := h;have hqs : ∀ o ∈ ops.take s,o.k.quiet = true := by
    simp only [chkRow,Bool.and_eq_true,List.all_eq_true] at hc; exact hc.1.1.2
  have hH := (pre0 (ops.take s) hqs hpre).1;subst hH;have hmap : ((ops.take s).map fun o => { o with lo := false }) = (ops.take s).map loF := rfl;cases p with
  | true =>
    rw [if_pos rfl] at hq;obtain ⟨m,hm⟩ : ∃ m,m = max k k2 := ⟨_,rfl⟩;refine ⟨m + 1,.pan v,_,H1,?_,hq⟩;have p1 := exOps_mono (exF_mono (T := T) k (show k ≤ m + 1 by omega)) hpre;have p3 : exOpX (exF T (m + 1)) ⟨d,none,false,.call true f args⟩ e1 h1 = some (some v,e1,H1) := by
      simp only [exOpX,exKX,Bool.false_eq_true,if_false,callX,if_true,hf,(exF_mono (T := T) k2 (show k2 ≤ m + 1 by omega)).x _ _ _ _ hcall,Option.map_some]
    simp only [exec,hmap,p1,ho,p3]
  | false =>
    rw [if_neg (by simp)] at hq;obtain ⟨hst,k3,e2,H2,hr,hq⟩ := hq;obtain ⟨m,hm⟩ : ∃ m,m = max k (max k2 k3) := ⟨_,rfl⟩;have p1 := exOps_mono (exF_mono (T := T) k (show k ≤ m by omega)) hpre;have hx := (exF_mono (T := T) k2 (show k2 ≤ m by omega)).x _ _ _ _ hcall;have p3 : Eng.hcall (exF T m) h1 (f.ev e1) (args.map (·.ev e1)) = some (v,H1) := by
      simp only [Eng.hcall,hf];exact x_n hg hx
    have p4 := exOps_mono (exF_mono (T := T) k3 (show k3 ≤ m by omega)) hr;obtain ⟨tr,a1,a2,a3⟩ := row1 hc p1 ho p3 hst h0 p4;refine ⟨m + 1,.nrm,e2,H2,?_,hq⟩;have q1 := exOps_mono (exF_mono (T := T) m (Nat.le_succ m)) p1;have q3 : exOpX (exF T (m + 1)) ⟨d,none,false,.call true f args⟩ e1 h1 = some (none,put e1 d v,H1) := by
      simp only [exOpX,exKX,Bool.false_eq_true,if_false,callX,if_true,hf,(exF_mono (T := T) m (Nat.le_succ m)).x _ _ _ _ hx,Option.map_some]
    have b1 := exOps0_mono (exF_mono (T := T) m (Nat.le_succ m)) a1;have b2 := stays_mono (exF_mono (T := T) m (Nat.le_succ m)) a2;simp only [exec,hmap,q1,ho,q3,b1,b2,if_true,a3,Option.map_some]
theorem los1 {s : Nat} {ops : List IOp} {k : Kind} {P : Kind → Prop} (h : los s ops = [k]) (hk : P k) : ∀ k ∈ los s ops,P k := by
  rw [h]; intro k' hk'; simp at hk'; subst hk'; exact hk
theorem stay_ldK {e : List V} {H H1 : Heap} {x : Opd} {n : Sh} {p v : V} (hx : x.ev e = p) (h0 : ldV H p n = some v) (h1 : ldV H1 p n = some v) (he : V.eqb deepN v v = true) : stayK e H H1 (.ld x n) = true := by
  simp only [stayK,evq,hx,h0,h1,he]
theorem eqb_slv (z : Nat) (ag : Bool) (n : Nat) (o : Option (Nat × Nat)) : V.eqb deepN (slv z ag n o) (slv z ag n o) = true := by
  cases o with
  | none => rfl
  | some p => obtain ⟨b,g⟩ := p; simp [slv,V.eqb,deepN]
end
end Go.Eng
namespace Go.Eng
open Go
set_option linter.unusedSectionVars false
set_option linter.unusedVariables false
set_option linter.unusedSimpArgs false
variable [Xtn]
theorem HP.snoc {H : Heap} {L : List Ob} (hp : HP H L) {b g : Nat} {cs : List V} (hb : H[b]? = some (g,cs)) (hn : ∀ (i : Nat) (g : Nat) (cs : List V),L[i]? ≠ some (some (b,g),cs)) : HP H (L ++ [(some (b,g),cs)]) := by
  have split : ∀ (i : Nat) (x : Ob),(L ++ [(some (b,g),cs)])[i]? = some x → (i < L.length ∧ L[i]? = some x) ∨ (i = L.length ∧ x = (some (b,g),cs)) := by
    intro i x hi;rcases Nat.lt_or_ge i L.length with h | h
    · rw [List.getElem?_append_left h] at hi; exact .inl ⟨h,hi⟩
    · rw [List.getElem?_append_right h] at hi;have : i - L.length = 0 := by have := (List.getElem?_eq_some_iff.mp hi).1; simp at this; omega
      rw [this] at hi; cases hi; exact .inr ⟨by omega,rfl⟩
  refine ⟨fun i o cs' hi => ?_,fun i j b' g1 g2 c1 c2 h1 h2 => ?_⟩
  · rcases split i _ hi with ⟨_,h⟩ | ⟨_,h⟩
    · exact hp.at_ i _ _ h
    · cases h; exact hb
  · rcases split i _ h1 with ⟨a,h⟩ | ⟨a,h⟩ <;> rcases split j _ h2 with ⟨a',h'⟩ | ⟨a',h'⟩
    · exact hp.ne _ _ _ _ _ _ _ h h'
    · cases h'; exact absurd h (hn _ _ _)
    · cases h; exact absurd h' (hn _ _ _)
    · omega
theorem HP.fill {H : Heap} {L : List Ob} (hp : HP H L) : ∃ R : List Ob,HP H (L ++ R) ∧ ∀ b,b < H.length → ∃ (i g : Nat) (cs : List V),(L ++ R)[i]? = some (some (b,g),cs) := by
  have key : ∀ k,k ≤ H.length → ∃ R : List Ob,HP H (L ++ R) ∧ ∀ b,b < k → ∃ (i g : Nat) (cs : List V),(L ++ R)[i]? = some (some (b,g),cs) := by
    intro k
    induction k with
    | zero => intro _; exact ⟨[],by simpa using hp,fun b hb => by omega⟩
    | succ k ih =>
      intro hk;obtain ⟨R,h1,h2⟩ := ih (by omega)
      by_cases hc : ∃ (i g : Nat) (cs : List V),(L ++ R)[i]? = some (some (k,g),cs)
      · refine ⟨R,h1,fun b hb => ?_⟩
        by_cases hbk : b = k
        · subst hbk; exact hc
        · exact h2 b (by omega)
      · rcases hx : H[k]'(by omega) with ⟨g,cs⟩;refine ⟨R ++ [(some (k,g),cs)],?_,fun b hb => ?_⟩
        · rw [← List.append_assoc];exact h1.snoc (by rw [List.getElem?_eq_getElem (by omega),hx]) (fun i g cs h => hc ⟨i,g,cs,h⟩)
        · rw [← List.append_assoc]
          by_cases hbk : b = k
          · subst hbk; exact ⟨(L ++ R).length,g,cs,by simp⟩
          · obtain ⟨i,g',cs',h⟩ := h2 b (by omega);exact ⟨i,g',cs',by rw [List.getElem?_append_left (List.getElem?_eq_some_iff.mp h).1]; exact h⟩
  exact key _ (Nat.le_refl _)
theorem HP.fillA {H : Heap} {A L : List Ob} (hp : HP H (A ++ L)) : ∃ R : List Ob,HP H (A ++ (L ++ R)) ∧ ∀ b,b < H.length → ∃ (i g : Nat) (cs : List V),(A ++ (L ++ R))[i]? = some (some (b,g),cs) := by
  obtain ⟨R,h1,h2⟩ := hp.fill;rw [List.append_assoc] at h1 h2;exact ⟨R,h1,h2⟩
theorem HP.left {H : Heap} {X R : List Ob} (hp : HP H (X ++ R)) : HP H X := by
  have get : ∀ {i : Nat} {x : Ob},X[i]? = some x → (X ++ R)[i]? = some x := by
    intro i x hi;rw [List.getElem?_append_left (List.getElem?_eq_some_iff.mp hi).1]; exact hi
  exact ⟨fun i o cs hi => hp.at_ i o cs (get hi),fun i j b g g' cs cs' h1 h2 => hp.ne _ _ _ _ _ _ _ (get h1) (get h2)⟩
theorem HP.leftA {H : Heap} {K L R : List Ob} (hp : HP H (K ++ (L ++ R))) : HP H (K ++ L) := by
  rw [← List.append_assoc] at hp; exact hp.left
inductive KO : List Ob → List Ob → Prop
  | nil : KO [] []
  | same (a : Ob) {A K : List Ob} (h : KO A K) : KO (a :: A) (a :: K)
  | chg {b g g' : Nat} {cs cs' : List V} (hf : cs'.all (V.free deepN) = true) {A K : List Ob} (h : KO A K) : KO ((some (b,g),cs) :: A) ((some (b,g'),cs') :: K)
theorem KO.len {A K : List Ob} (h : KO A K) : A.length = K.length := by
  induction h with
  | nil => rfl
  | same a h ih => simp [ih]
  | chg hf h ih => simp [ih]
theorem KO.get {A K : List Ob} (h : KO A K) : ∀ {i : Nat} {b g : Nat} {cs : List V},A[i]? = some (some (b,g),cs) → ∃ g' cs',K[i]? = some (some (b,g'),cs') ∧ ((g' = g ∧ cs' = cs) ∨ cs'.all (V.free deepN) = true) := by
  induction h with
  | nil => intro i b g cs h; simp at h
  | same a h ih =>
    intro i b g cs hi;cases i with
    | zero => exact ⟨g,cs,by simpa using hi,.inl ⟨rfl,rfl⟩⟩
    | succ i => simpa using ih (by simpa using hi)
  | chg hf h ih =>
    intro i b g cs hi;cases i with
    | zero => simp at hi; obtain ⟨⟨rfl,rfl⟩,rfl⟩ := hi; exact ⟨_,_,rfl,.inr hf⟩
    | succ i => simpa using ih (by simpa using hi)
theorem KO.back {A K : List Ob} (h : KO A K) : ∀ {i : Nat} {b g : Nat} {cs : List V},K[i]? = some (some (b,g),cs) → ∃ g' cs',A[i]? = some (some (b,g'),cs') := by
  induction h with
  | nil => intro i b g cs h; simp at h
  | same a h ih =>
    intro i b g cs hi;cases i with
    | zero => exact ⟨g,cs,by simpa using hi⟩
    | succ i => simpa using ih (by simpa using hi)
  | chg hf h ih =>
    intro i b g cs hi;cases i with
    | zero => simp at hi; obtain ⟨⟨rfl,rfl⟩,rfl⟩ := hi; exact ⟨_,_,rfl⟩
    | succ i => simpa using ih (by simpa using hi)
theorem free_newR {n0 : Nat} {H : Heap} : ∀ (n : Nat) {v : V},V.free n v = true → V.newR n0 H n v = true
  | 0,v,h => by simp [V.free] at h
  | n + 1,v,h => by
    cases v <;> simp only [V.free,V.newR,Bool.false_eq_true,reduceCtorEq] at h ⊢ <;> (try exact h) <;> (try (rw [List.all_eq_true] at h ⊢; exact fun c hc => free_newR n (h c hc))) <;> (try exact free_newR n h)
theorem free_map {cs : List V} (h : cs.all (V.free deepN) = true) : notMap cs = true := by
  unfold notMap
  split
  · simp [V.free,deepN] at h
  · rfl
theorem own_newR {n0 : Nat} {h : Heap} {M : List Ob} (hp : HP h M) (hn : ∀ (i b g : Nat) (cs : List V),M[i]? = some (some (b,g),cs) → n0 ≤ b) (hM : ∀ m ∈ M,m.2.all (V.free deepN) = true) (i : Nat) {z : Nat} {ag : Bool} {len : Nat} {o : Option (Nat × Nat)} {cs : List V} (hi : M[i]? = some (o,cs)) (k : Nat) : V.newR n0 h (k + 1) (slv z ag len o) = true := by
  cases o with
  | none => rfl
  | some p =>
    obtain ⟨b,g⟩ := p;simp only [slv,V.newR,Bool.and_eq_true,decide_eq_true_eq];refine ⟨hn i b g cs hi,?_⟩;rw [rdB_of (hp.get hi)];exact free_map (hM _ (List.mem_of_getElem? hi))
theorem newR_ag {n0 : Nat} {h : Heap} {k : Nat} {cs : List V} (hc : cs.all (V.newR n0 h k) = true) : V.newR n0 h (k + 1) (.ag cs) = true := hc
theorem newR_tup {n0 : Nat} {h : Heap} {k : Nat} {cs : List V} (hc : cs.all (V.newR n0 h k) = true) : V.newR n0 h (k + 1) (.tup cs) = true := hc
theorem allc {p : V → Bool} {a : V} {l : List V} (h1 : p a = true) (h2 : l.all p = true) : (a :: l).all p = true := by rw [List.all_cons,h1,h2]; rfl
theorem alln {p : V → Bool} : ([] : List V).all p = true := rfl
theorem mem1 {p : Ob → Prop} {a : Ob} {l : List Ob} (h1 : p a) (h2 : ∀ m ∈ l,p m) : ∀ m ∈ a :: l,p m := by
  intro m hm;cases hm with
  | head => exact h1
  | tail _ h => exact h2 m h
theorem mem0 {p : Ob → Prop} : ∀ m ∈ ([] : List Ob),p m := fun m h => by cases h
theorem flat_free {α : Type} (E : Enc α) (hE : ∀ a,(E.c a).all (V.free deepN) = true) (l : List α) {rest : List V} (hr : rest = []) : (l.flatMap E.c ++ rest).all (V.free deepN) = true := by
  subst hr;rw [List.append_nil,List.all_eq_true];intro x hx;obtain ⟨a,_,ha⟩ := List.mem_flatMap.mp hx;exact List.all_eq_true.mp (hE a) x ha
theorem frz_end {H h : Heap} {A K M L : List Ob} (hp0 : HP H (A ++ L)) (hcov : ∀ b,b < H.length → ∃ (i g : Nat) (cs : List V),(A ++ L)[i]? = some (some (b,g),cs)) (hko : KO A K) (hp2 : HP h (M ++ (K ++ L))) (hM : ∀ m ∈ M,m.2.all (V.free deepN) = true) {v u : V}
    (hn : ∀ n0,HP h M → (∀ (i b g : Nat) (cs : List V),M[i]? = some (some (b,g),cs) → n0 ≤ b) → V.newR n0 h deepN v = true) (hd : ∀ Hc,HP Hc M → deep false Hc deepN v = some u) : frzV H v h = some (u,h.take H.length) ∧ HP (h.take H.length) (K ++ L) := by
  have at2 : ∀ (i b g : Nat) (cs : List V),(A ++ L)[i]? = some (some (b,g),cs) → ∃ g' cs',(K ++ L)[i]? = some (some (b,g'),cs') ∧ ((g' = g ∧ cs' = cs) ∨ cs'.all (V.free deepN) = true) := by
    intro i b g cs hi;rcases Nat.lt_or_ge i A.length with hl | hl
    · rw [List.getElem?_append_left hl] at hi;obtain ⟨g',cs',h1,h2⟩ := hko.get hi;exact ⟨g',cs',by rw [List.getElem?_append_left (by rw [← hko.len]; exact hl)]; exact h1,h2⟩
    · rw [List.getElem?_append_right hl] at hi;exact ⟨g,cs,by rw [List.getElem?_append_right (by rw [← hko.len]; exact hl),← hko.len]; exact hi,.inl ⟨rfl,rfl⟩⟩
  have get2 : ∀ {i : Nat} {x : Ob},(K ++ L)[i]? = some x → (M ++ (K ++ L))[M.length + i]? = some x := by
    intro i x hi;rw [List.getElem?_append_right (by omega),show M.length + i - M.length = i by omega]; exact hi
  have get1 : ∀ {i : Nat} {x : Ob},M[i]? = some x → (M ++ (K ++ L))[i]? = some x := by
    intro i x hi;rw [List.getElem?_append_left (List.getElem?_eq_some_iff.mp hi).1]; exact hi
  have new : ∀ (i b g : Nat) (cs : List V),M[i]? = some (some (b,g),cs) → H.length ≤ b := by
    intro i b g cs hi;rcases Nat.lt_or_ge b H.length with hb | hb
    · obtain ⟨j,g0,cs0,hj⟩ := hcov b hb;obtain ⟨g',cs',h1,_⟩ := at2 j b g0 cs0 hj;have := hp2.ne _ _ _ _ _ _ _ (get1 hi) (get2 h1);have := (List.getElem?_eq_some_iff.mp hi).1
      omega
    · exact hb
  have hpM : HP h M := ⟨fun i o cs hi => hp2.at_ i o cs (get1 hi),fun i j b g g' cs cs' h1 h2 => hp2.ne _ _ _ _ _ _ _ (get1 h1) (get1 h2)⟩;have hpC : HP (cleanH H.length h) M := by
    refine ⟨fun i o cs hi => ?_,hpM.ne⟩;cases o with
    | none => exact hpM.at_ i _ _ hi
    | some p =>
      obtain ⟨b,g⟩ := p;have h1 := hpM.get hi;show (cleanH H.length h)[b]? = some (g,cs);unfold cleanH;rw [List.getElem?_map,h1];have hf := hM _ (List.mem_of_getElem? hi);have : cs.map (fun c => if V.newR H.length h deepN c then c else .un) = cs := by
        conv => rhs; rw [← List.map_id cs]
        refine List.map_congr_left (fun c hc => ?_);rw [if_pos (free_newR deepN (List.all_eq_true.mp hf c hc))]; rfl
      simp only [Option.map_some,this]
  refine ⟨?_,fun i o cs hi => ?_,fun i j b g g' cs cs' h1 h2 => ?_⟩
  · have hk : keptH H h := by
      intro b hb;obtain ⟨j,g0,cs0,hj⟩ := hcov b hb;obtain ⟨g',cs',h1,h2⟩ := at2 j b g0 cs0 hj;rcases h2 with ⟨rfl,rfl⟩ | h2
      · exact .inl (by rw [hp2.get (get2 h1),hp0.get hj])
      · exact .inr ⟨g',cs',hp2.get (get2 h1),h2⟩
    simp only [frzV,if_pos (And.intro hk (hn _ hpM new)),hd _ hpC,Option.map_some]
  · cases o with
    | none => exact hp2.at_ _ _ _ (get2 hi)
    | some p =>
      obtain ⟨b,g⟩ := p;show (h.take H.length)[b]? = some (g,cs);have hb : b < H.length := by
        rcases Nat.lt_or_ge i K.length with hl | hl
        · rw [List.getElem?_append_left hl] at hi;obtain ⟨g',cs',h1⟩ := hko.back hi;exact hp0.lt (i := i) (by rw [List.getElem?_append_left (List.getElem?_eq_some_iff.mp h1).1]; exact h1)
        · rw [List.getElem?_append_right hl] at hi;exact hp0.lt (i := A.length + (i - K.length)) (by rw [List.getElem?_append_right (by omega),show A.length + (i - K.length) - A.length = i - K.length by omega]; exact hi)
      rw [List.getElem?_take,if_pos hb];exact hp2.get (get2 hi)
  · have := hp2.ne _ _ _ _ _ _ _ (get2 h1) (get2 h2)
    omega
variable {T : Nat → Option IFun}
theorem Fn.enterZ {f : Nat} {g : IFun} {b : Ir} {args e0 : List V} {H : Heap} {QF Q : V → Heap → Prop} (hT : T f = some g) (hb : g.body = .frz b) (he : args ++ List.replicate (g.ntmps - args.length) .un = e0) (h : Run T b e0 H (finE b.cells g.res QF))
    (hz : ∀ v h,QF v h → ∃ u,frzV H v h = some (u,h.take H.length) ∧ Q u (h.take H.length)) : Fn T f args H Q := by
  subst he;obtain ⟨k,x,e,H',h1,h2⟩ := h;obtain ⟨m,hm⟩ : ∃ m,m = k + 1 := ⟨_,rfl⟩;have h1' : exec (exF T m) m g.body (args ++ List.replicate (g.ntmps - args.length) .un) H = some (x,e,H') := by
    rw [hb,hm]; simp only [exec]; exact exec_mono (exF_mono k (Nat.le_succ k)) k (Nat.le_refl k) h1
  have hr : g.body.cells = b.cells := by rw [hb]; rfl
  have hfz : g.body.isFrz = true := by rw [hb]; rfl
  cases x with
  | nrm => obtain ⟨v,h3,h4⟩ := h2; obtain ⟨u,h5,h6⟩ := hz v H' h4; exact ⟨m + 1,_,_,by simp only [exF,hT,h1',hr,h3,Option.bind_some,hfz,frzR,h5],h6⟩
  | ret => obtain ⟨v,h3,h4⟩ := h2; obtain ⟨u,h5,h6⟩ := hz v H' h4; exact ⟨m + 1,_,_,by simp only [exF,hT,h1',hr,h3,Option.bind_some,hfz,frzR,h5],h6⟩
  | ext i => exact h2.elim
  | pan v => exact h2.elim
theorem FnX.enterZ {f : Nat} {g : IFun} {b : Ir} {args e0 : List V} {H : Heap} {QF Q : Bool → V → Heap → Prop} (hT : T f = some g) (hb : g.body = .frz b) (he : args ++ List.replicate (g.ntmps - args.length) .un = e0) (h : Run T b e0 H (finP b.cells g.res QF))
    (hz : ∀ v h,QF false v h → ∃ u,frzV H v h = some (u,h.take H.length) ∧ Q false u (h.take H.length)) (hx : ∀ v h,QF true v h → Q true v h) : FnX T f args H Q := by
  subst he;obtain ⟨k,x,e,H',h1,h2⟩ := h;obtain ⟨m,hm⟩ : ∃ m,m = k + 1 := ⟨_,rfl⟩;have h1' : exec (exF T m) m g.body (args ++ List.replicate (g.ntmps - args.length) .un) H = some (x,e,H') := by
    rw [hb,hm]; simp only [exec]; exact exec_mono (exF_mono k (Nat.le_succ k)) k (Nat.le_refl k) h1
  have hr : g.body.cells = b.cells := by rw [hb]; rfl
  have hfz : g.body.isFrz = true := by rw [hb]; rfl
  cases x with
  | nrm => obtain ⟨v,h3,h4⟩ := h2; obtain ⟨u,h5,h6⟩ := hz v H' h4; exact ⟨m + 1,false,_,_,by simp only [exF,hT,h1',hr,h3,Option.bind_some,hfz,frzR,h5,Option.map_some],h6⟩
  | ret => obtain ⟨v,h3,h4⟩ := h2; obtain ⟨u,h5,h6⟩ := hz v H' h4; exact ⟨m + 1,false,_,_,by simp only [exF,hT,h1',hr,h3,Option.bind_some,hfz,frzR,h5,Option.map_some],h6⟩
  | ext i => exact h2.elim
  | pan v => exact ⟨m + 1,true,_,_,by simp only [exF,hT,h1'],hx _ _ h2⟩
end Go.Eng
namespace Go.Eng
open Go
set_option linter.unusedSectionVars false
set_option linter.unusedVariables false
set_option linter.unusedSimpArgs false
variable [Xtn]
variable {T : Nat → Option IFun} {env : List V} {H : Heap}
theorem RunO.c1s {d : Option Nat} {g : Option (Nat × Bool)} {lo : Bool} {f : Nat} {args : List Opd} {us : List V} {r : List IOp} {Q : List V → Heap → Prop} (mk : V → V) (hg : gdB env g = true)
    (ha : omap (deep false (if lo then [] else H) deepN) (args.map (·.ev env)) = some us) (hf : ∀ s,∃ w,Fn T f us [] (fun r h => deep s h deepN r = some (mk w))) (hr : ∀ w,RunO T r (put env d (mk w)) H Q) : RunO T (⟨d,g,lo,.call false (.c (.fn f [])) args⟩ :: r) env H Q := by
  obtain ⟨w,hw⟩ := hf (!(args.map (·.ev env)).all (V.free deepN));exact RunO.c1 hg ha hw (hr w)
def V.isI : V → Bool
  | .ifc .. => true
  | _ => false
theorem Run.dfr {pre : List IOp} {t cl : Nat} {caps : List Opd} {body : Ir} {Q : X → List V → Heap → Prop}
    (h : RunO T pre env H (fun e h => t < e.length ∧ Run T body (clrEnv [t] e) h (fun x e2 h2 => match x with | .pan v => ∃ H3,Xtn.rcv cl (caps.map (·.ev e)) v h2 = some H3 ∧ Q .ret e2 H3 | x => Q x e2 h2))) : Run T (.dfr pre t cl caps body) env H Q := by
  obtain ⟨k,e,h1,a1,a2,k2,x,e2,h2,a3,a4⟩ := h;have p1 := exOps_mono (exF_mono (T := T) k (show k ≤ max k k2 by omega)) a1;have p2 := exec_mono (exF_mono (T := T) k2 (show k2 ≤ max k k2 by omega)) k2 (show k2 ≤ max k k2 by omega) a3;have p1 := exOps_mono (exF_mono (T := T) (max k k2) (Nat.le_succ _)) p1;have p2 := exec_mono (exF_mono (T := T) (max k k2) (Nat.le_succ _)) (max k k2) (Nat.le_refl _) p2;obtain ⟨m,hm⟩ : ∃ m,m = max k k2 := ⟨_,rfl⟩;rw [← hm] at p1 p2;cases x with
  | pan v =>
    obtain ⟨H3,q1,q2⟩ := a4;exact ⟨m + 1,.ret,e2,H3,by simp only [exec,p1,if_pos a2,p2,q1,Option.map_some],q2⟩
  | nrm => exact ⟨m + 1,.nrm,e2,h2,by simp only [exec,p1,if_pos a2,p2],a4⟩
  | ret => exact ⟨m + 1,.ret,e2,h2,by simp only [exec,p1,if_pos a2,p2],a4⟩
  | ext i => exact ⟨m + 1,.ext i,e2,h2,by simp only [exec,p1,if_pos a2,p2],a4⟩
def RunD (T : Nat → Option IFun) (H0 : Heap) (Ph : Heap → Prop) (ops : List IOp) (env : List V) (H : Heap) (Q : List V → Heap → Prop) : Prop :=
  ∃ k tr,exOps0 (exF T k) H0 ops env H = some tr ∧ (∀ p ∈ tr,Ph p.2) ∧ (∀ (i : Nat) (o : IOp) (p : List V × Heap),ops[i]? = some o → tr[i]? = some p → o.lo = true → ∀ h,Ph h → stayOp noF H0 o p.1 h = true) ∧ ∃ e h,tr.getLast? = some (e,h) ∧ Q e h
theorem Run.rgdG {ls : List Nat} {ops : List IOp} {Q : X → List V → Heap → Prop} (Ph : Heap → Prop) (hl : ls.length = ops.length) (h : RunD T H Ph ops env H (fun e h => Q .nrm e h)) : Run T (.rgd ls ops) env H Q := by
  obtain ⟨k,tr,h1,h2,h3,e,h',h4,h5⟩ := h;refine ⟨k + 1,.nrm,e,h',?_,h5⟩;have h1' := exOps0_mono (exF_mono k (Nat.le_succ k)) h1;have hs : stays (exF T (k + 1)) H (tr.map (·.2)) ls ops tr = true := by
    refine stays_of hl (fun i n o p a1 a2 a3 a4 => ?_);rw [List.all_eq_true];intro x hx;have hx := List.mem_of_mem_take hx;obtain ⟨p',hp',rfl⟩ := List.mem_map.mp hx;exact stayOp_mono (noF_le _) (h3 i o p a2 a3 a4 _ (h2 p' hp'))
  simp only [exec,h1',hs,if_true,h4,Option.map_some]
theorem RunD.nil {H0 : Heap} {Ph : Heap → Prop} {Q : List V → Heap → Prop} (hP : Ph H) (h : Q env H) : RunD T H0 Ph [] env H Q :=
  ⟨0,[(env,H)],rfl,fun p hp => by simp at hp; subst hp; exact hP,fun i o p h => by simp at h,env,H,rfl,h⟩
theorem RunD.cons {H0 : Heap} {Ph : Heap → Prop} {Q : List V → Heap → Prop} {o : IOp} {r : List IOp} {e1 : List V} {H1 : Heap} (hP : Ph H) {k : Nat} (h1 : exOp0 (exF T k) H0 o env H = some (e1,H1)) (hs : o.lo = true → ∀ h,Ph h → stayOp noF H0 o env h = true) (h : RunD T H0 Ph r e1 H1 Q) : RunD T H0 Ph (o :: r) env H Q := by
  obtain ⟨k2,tr,a1,a2,a3,e,h',a4,a5⟩ := h;refine ⟨max k k2,(env,H) :: tr,?_,?_,?_,e,h',?_,a5⟩
  · simp only [exOps0,exOp0_mono (exF_mono k (show k ≤ max k k2 by omega)) h1,exOps0_mono (exF_mono k2 (show k2 ≤ max k k2 by omega)) a1]
  · intro p hp;cases hp with
    | head => exact hP
    | tail _ h => exact a2 p h
  · intro i o' p b1 b2 b3;cases i with
    | zero => simp at b1 b2; subst b1; subst b2; exact hs b3
    | succ i => exact a3 i o' p (by simpa using b1) (by simpa using b2) b3
  · rw [List.getLast?_cons,a4]; rfl
theorem RunD.of1 {H0 : Heap} {Ph : Heap → Prop} {Q : List V → Heap → Prop} {o : IOp} {r : List IOp} (hP : Ph H) (hl : o.lo = false) (h : RunO T [o] env H (fun e h => RunD T H0 Ph r e h Q)) : RunD T H0 Ph (o :: r) env H Q := by
  obtain ⟨k,e,h',h1,h2⟩ := h;have h3 : exOp (exF T k) o env H = some (e,h') := by
    simp only [exOps] at h1
    split at h1
    · rename_i q; rw [q]; exact h1
    · cases h1
  refine RunD.cons hP (k := k) (by simp only [exOp0,hl,Bool.false_eq_true,if_false]; exact h3) (fun h => ?_) h2;rw [hl] at h; cases h
theorem RunD.tk (n : Nat) {H0 : Heap} {Ph : Heap → Prop} {ops : List IOp} {Q : List V → Heap → Prop} (hP : Ph H) (hq : (ops.take n).all (fun o => !o.lo && o.k.quiet) = true) (h : exOps noF (ops.take n) env H = some (envAfter (ops.take n) env H,H)) (hr : RunD T H0 Ph (ops.drop n) (envAfter (ops.take n) env H) H Q) : RunD T H0 Ph ops env H Q := by
  have key : ∀ (a b : List IOp) (env e : List V),a.all (fun o => !o.lo && o.k.quiet) = true → exOps noF a env H = some (e,H) → RunD T H0 Ph b e H Q → RunD T H0 Ph (a ++ b) env H Q := by
    intro a
    induction a with
    | nil => intro b env e _ h1 h2; cases h1; exact h2
    | cons o a ih =>
      intro b env e hq h1 h2;simp only [List.all_cons,Bool.and_eq_true,Bool.not_eq_true'] at hq;simp only [exOps] at h1
      split at h1
      · rename_i e1 H1 q
        have hH := (exOp_shape q).2 hq.1.2;rw [hH] at q h1;refine RunD.of1 hP hq.1.1 ⟨0,e1,_,by simp only [exOps,exOp_mono (noF_le _) q],ih b e1 e hq.2 h1 h2⟩
      · cases h1
  have := key (ops.take n) (ops.drop n) env _ hq h hr
  rwa [List.take_append_drop] at this
theorem RunD.ld {H0 : Heap} {Ph : Heap → Prop} {d : Option Nat} {x : Opd} {n : Sh} {r : List IOp} {Q : List V → Heap → Prop} {b g off : Nat} {cs : List V} {v : V} (hP : Ph H) (hP0 : Ph H0) (hx : x.ev env = .ptr b g off) (hb : ∀ h,Ph h → h[b]? = some (g,cs)) (ht : takeSh cs off n = some v) (he : V.eqb deepN v v = true)
    (hr : RunD T H0 Ph r (put env d v) H Q) : RunD T H0 Ph (⟨d,none,true,.ld x n⟩ :: r) env H Q := by
  have ev : ∀ h,Ph h → ldV h (x.ev env) n = some v := by
    intro h hh;rw [hx];simp only [ldV,rdB_of (hb h hh),Option.bind_some,ht]
  refine RunD.cons hP (k := 0) ?_ (fun _ h hh => ?_) hr
  · simp only [exOp0,if_true,Kind.quiet,exOp,exK,Bool.false_eq_true,if_false,evq,ev H0 hP0,Option.map_some]
  · simp only [stayOp,gdR,Bool.not_true,Bool.false_or,evq,ev h hh,ev H0 hP0,he]
theorem RunD.stop {H0 : Heap} {Ph : Heap → Prop} {Q : X → List V → Heap → Prop} {ts : List Nat} {b : Ir} {e' : List V} (hP : Ph H) (he : clrEnv ts env = e') (h : Run T b e' H Q) : RunD T H0 Ph [] env H (fun e h => thn T (.clr ts b) Q .nrm e h) := RunD.nil hP (Run.clr (he ▸ h))
theorem eqb_str (s : ByteArray) (n : Nat) : V.eqb (n + 1) (.str s) (.str s) = true := by simp [V.eqb]
theorem eqb_es (s : List UInt8) (n : Nat) : V.eqb (n + 1) (ES.e s) (ES.e s) = true := eqb_str _ n
theorem eqb_ei (k : IntKind) (x : Int) (n : Nat) : V.eqb (n + 1) ((EI k).e x) ((EI k).e x) = true := by simp [V.eqb,EI]
theorem eqb2c {f : V → V → Bool} {a : V} {l : List V} (h1 : f a a = true) (h2 : eqb2 f l l = true) : eqb2 f (a :: l) (a :: l) = true := by simp [eqb2,h1,h2]
theorem eqb2n {f : V → V → Bool} : eqb2 f [] [] = true := rfl
theorem eqb_ag {cs : List V} {n : Nat} (h : eqb2 (V.eqb n) cs cs = true) : V.eqb (n + 1) (.ag cs) (.ag cs) = true := h
theorem eqb_fz {α : Type} {f : α → V} {n : Nat} (h : ∀ a,V.eqb n (f a) (f a) = true) (l : List α) : V.eqb (n + 1) (.fz (l.map f)) (.fz (l.map f)) = true := by
  show eqb2 (V.eqb n) (l.map f) (l.map f) = true
  induction l with
  | nil => rfl
  | cons a l ih => exact eqb2c (h a) ih
end Go.Eng
