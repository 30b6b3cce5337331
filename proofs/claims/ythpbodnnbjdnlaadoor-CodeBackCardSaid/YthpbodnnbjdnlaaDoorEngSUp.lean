/- Functions of this seat, run on unknown values by the rules of the small machine (no condition beyond those stated). -/
import Derived.Test.YthpbodnnbjdnlaaDoorEngNUp
set_option linter.unusedSectionVars false
namespace Go.Eng
open Go
set_option linter.unusedSectionVars false
set_option linter.unusedVariables false
set_option linter.unusedSimpArgs false
variable [Xtn]
structure FLe (F F' : FT) : Prop where
  n : ∀ f args H r,F f args H = some r → F' f args H = some r
  x : ∀ f args H r,F.x f args H = some r → F'.x f args H = some r
theorem FLe.refl (F : FT) : FLe F F := ⟨fun _ _ _ _ h => h,fun _ _ _ _ h => h⟩
theorem pcall_mono {F F' : FT} (h : FLe F F') {H : Heap} {f : V} {args : List V} {v : V} (hp : pcall F H f args = some v) : pcall F' H f args = some v := by
  unfold pcall at hp ⊢
  split at hp
  · simp only [Option.bind_eq_some_iff] at hp ⊢;obtain ⟨us,hus,r,hr,hd⟩ := hp;exact ⟨us,hus,r,h.n _ _ _ _ hr,hd⟩
  · cases hp
theorem clnV_mono {F F' : FT} (h : FLe F F') {f v : V} (he : clnV F f = some v) : clnV F' f = some v := by
  unfold clnV at he ⊢
  split at he
  · simp only [Option.bind_eq_some_iff] at he ⊢;obtain ⟨r,hr,q,hq,he⟩ := he;exact ⟨r,h.n _ _ _ _ hr,q,h.n _ _ _ _ hq,he⟩
  · cases he
theorem evq_mono {F F' : FT} (h : FLe F F') {env : List V} {H : Heap} {k : Kind} {v : V} (he : evq F env H k = some v) : evq F' env H k = some v := by
  cases k <;> try exact he
  case box x fr => cases fr <;> exact he
  case bsl z ag n zero ps fr => cases fr <;> exact he
  case call hp f args =>
    cases hp with
    | true => exact he
    | false => exact pcall_mono h he
  case cln hp f x =>
    cases hp with
    | true => exact he
    | false =>
      simp only [evq] at he ⊢
      split at he
      · rename_i hE; rw [if_pos hE]; exact clnV_mono h he
      · rename_i hE; rw [if_neg hE]; exact pcall_mono h he
theorem evw_mono {F F' : FT} (h : FLe F F') {env : List V} {H : Heap} {k : Kind} {r : V × Heap} (he : evw F env H k = some r) : evw F' env H k = some r := by
  cases k <;> try exact he
  case box x fr => cases fr <;> exact he
  case bsl z ag n zero ps fr => cases fr <;> exact he
  case call hp f args =>
    cases hp with
    | false => exact he
    | true =>
      simp only [evw] at he ⊢;unfold hcall at he ⊢
      split at he
      · exact h.n _ _ _ _ he
      · exact h.n _ _ _ _ he
      · cases he
  case cln hp f x =>
    cases hp with
    | false => exact he
    | true =>
      simp only [evw] at he ⊢
      split at he
      · rename_i hE
        rw [if_pos hE];simp only [Option.map_eq_some_iff] at he ⊢;obtain ⟨w,hw,e⟩ := he;exact ⟨w,clnV_mono h hw,e⟩
      · rename_i hE
        rw [if_neg hE];unfold cln1 at he ⊢
        split at he
        · split at he
          · rename_i hf
            rw [if_pos hf];simp only [Option.bind_eq_some_iff] at he ⊢;obtain ⟨q,h1,h2⟩ := he;exact ⟨q,h.n _ _ _ _ h1,h2⟩
          · cases he
        · cases he
theorem exK_mono {F F' : FT} (h : FLe F F') {o : IOp} {env : List V} {H : Heap} {r : List V × Heap} (he : exK F o env H = some r) : exK F' o env H = some r := by
  unfold exK at he ⊢
  split at he
  · rename_i hq
    simp only [Option.map_eq_some_iff] at he;obtain ⟨v,hv,rfl⟩ := he;rw [if_pos hq,evq_mono h hv]; rfl
  · rename_i hq
    simp only [Option.map_eq_some_iff] at he;obtain ⟨v,hv,rfl⟩ := he;rw [if_neg hq,evw_mono h hv]; rfl
theorem exOp_mono {F F' : FT} (h : FLe F F') {o : IOp} {env : List V} {H : Heap} {r : List V × Heap} (he : exOp F o env H = some r) : exOp F' o env H = some r := by
  unfold exOp at he ⊢;cases hg : o.guard with
  | none => rw [hg] at he; exact exK_mono h he
  | some p =>
    obtain ⟨t,w⟩ := p;rw [hg] at he
    dsimp only at he ⊢
    cases hv : env.getD t .un <;> rw [hv] at he <;> dsimp only at he ⊢ <;> (try exact he)
    split at he
    · rename_i hb; rw [if_pos hb]; exact exK_mono h he
    · rename_i hb; rw [if_neg hb]; exact he
theorem exOps_mono {F F' : FT} (h : FLe F F') : ∀ {ops : List IOp} {env : List V} {H : Heap} {r : List V × Heap},exOps F ops env H = some r → exOps F' ops env H = some r
  | [],_,_,_,he => he
  | o :: l,env,H,r,he => by
    simp only [exOps] at he ⊢
    split at he
    · rename_i e1 H1 h1
      rw [exOp_mono h h1]; exact exOps_mono h he
    · cases he
theorem exOp0_mono {F F' : FT} (h : FLe F F') {H0 : Heap} {o : IOp} {env : List V} {H : Heap} {r : List V × Heap} (he : exOp0 F H0 o env H = some r) : exOp0 F' H0 o env H = some r := by
  unfold exOp0 at he ⊢
  split at he
  · rename_i hl
    rw [if_pos hl]
    split at he
    · rename_i hq
      rw [if_pos hq];simp only [Option.map_eq_some_iff] at he ⊢;obtain ⟨x,h1,h2⟩ := he;exact ⟨x,exOp_mono h h1,h2⟩
    · cases he
  · rename_i hl
    rw [if_neg hl];exact exOp_mono h he
theorem exOps0_mono {F F' : FT} (h : FLe F F') {H0 : Heap} : ∀ {ops : List IOp} {env : List V} {H : Heap} {r : List (List V × Heap)},exOps0 F H0 ops env H = some r → exOps0 F' H0 ops env H = some r
  | [],_,_,_,he => he
  | o :: l,env,H,r,he => by
    simp only [exOps0] at he ⊢
    split at he
    · rename_i e1 H1 h1
      rw [exOp0_mono h h1]
      simp only
      split at he
      · rename_i tr h2; rw [exOps0_mono h h2]; exact he
      · cases he
    · cases he
theorem stayOp_mono {F F' : FT} (h : FLe F F') {H0 : Heap} {o : IOp} {env : List V} {H : Heap} (hs : stayOp F H0 o env H = true) : stayOp F' H0 o env H = true := by
  unfold stayOp at hs ⊢;rw [Bool.or_eq_true] at hs ⊢;rcases hs with hs | hs
  · exact .inl hs
  · right
    split at hs
    · rename_i a b ha hb
      rw [evq_mono h ha,evq_mono h hb]; exact hs
    · cases hs
theorem stays_mono {F F' : FT} (h : FLe F F') {H0 : Heap} {hs : List Heap} : ∀ {ls : List Nat} {ops : List IOp} {tr : List (List V × Heap)},stays F H0 hs ls ops tr = true → stays F' H0 hs ls ops tr = true
  | [],[],_,_ => rfl
  | _ :: _,[],_,_ => rfl
  | [],_ :: _,[],_ => rfl
  | _ :: _,_ :: _,[],_ => rfl
  | [],o :: r,p :: tr,hst => by
    simp only [stays,Bool.and_eq_true,Bool.or_eq_true,List.all_eq_true] at hst ⊢;refine ⟨?_,stays_mono h hst.2⟩;rcases hst.1 with h1 | h1
    · exact .inl h1
    · exact .inr fun x hx => stayOp_mono h (h1 x hx)
  | n :: ls,o :: r,p :: tr,hst => by
    simp only [stays,Bool.and_eq_true,Bool.or_eq_true,List.all_eq_true] at hst ⊢;refine ⟨?_,stays_mono h hst.2⟩;rcases hst.1 with h1 | h1
    · exact .inl h1
    · exact .inr fun x hx => stayOp_mono h (h1 x hx)
theorem callX_mono {F F' : FT} (h : FLe F F') {H : Heap} {hp : Bool} {f : V} {args : List V} {r : Bool × V × Heap} (he : callX F H hp f args = some r) : callX F' H hp f args = some r := by
  unfold callX at he ⊢
  split at he
  · rename_i hh
    rw [if_pos hh]
    split at he
    · exact h.x _ _ _ _ he
    · exact h.x _ _ _ _ he
    · cases he
  · rename_i hh
    rw [if_neg hh]
    split at he
    · simp only [Option.bind_eq_some_iff] at he ⊢;obtain ⟨us,hus,q,hq,he⟩ := he;exact ⟨us,hus,q,h.x _ _ _ _ hq,he⟩
    · cases he
theorem exKX_mono {F F' : FT} (h : FLe F F') {o : IOp} {env : List V} {H : Heap} {r : Option V × List V × Heap} (he : exKX F o env H = some r) : exKX F' o env H = some r := by
  unfold exKX at he ⊢
  split at he
  · split at he
    · cases he
    · rename_i hlo
      rw [if_neg hlo];simp only [Option.map_eq_some_iff] at he ⊢;obtain ⟨q,hq,rfl⟩ := he;exact ⟨q,callX_mono h hq,rfl⟩
  · simp only [Option.map_eq_some_iff] at he ⊢;obtain ⟨q,hq,rfl⟩ := he;exact ⟨q,exK_mono h hq,rfl⟩
theorem exOpX_mono {F F' : FT} (h : FLe F F') {o : IOp} {env : List V} {H : Heap} {r : Option V × List V × Heap} (he : exOpX F o env H = some r) : exOpX F' o env H = some r := by
  unfold exOpX at he ⊢;cases hg : o.guard with
  | none => rw [hg] at he; exact exKX_mono h he
  | some p =>
    obtain ⟨t,w⟩ := p;rw [hg] at he
    dsimp only at he ⊢
    cases hv : env.getD t .un <;> rw [hv] at he <;> dsimp only at he ⊢ <;> (try exact he)
    split at he
    · rename_i hb; rw [if_pos hb]; exact exKX_mono h he
    · rename_i hb; rw [if_neg hb]; exact he
theorem exOpsX_mono {F F' : FT} (h : FLe F F') : ∀ {ops : List IOp} {env : List V} {H : Heap} {r : Option V × List V × Heap},exOpsX F ops env H = some r → exOpsX F' ops env H = some r
  | [],_,_,_,he => he
  | o :: l,env,H,r,he => by
    simp only [exOpsX] at he ⊢;cases h1 : exOpX F o env H with
    | none => rw [h1] at he; cases he
    | some q =>
      obtain ⟨p,e1,H1⟩ := q;rw [h1] at he;rw [exOpX_mono h h1];cases p with
      | none => exact exOpsX_mono h he
      | some v => exact he
theorem exec_mono {F F' : FT} (h : FLe F F') : ∀ (k : Nat) {k' : Nat},k ≤ k' → ∀ {ir : Ir} {env : List V} {H : Heap} {r : X × List V × Heap},exec F k ir env H = some r → exec F' k' ir env H = some r
  | 0,k',_,ir,env,H,r,he => by simp [exec] at he
  | k + 1,0,hk,_,_,_,_,_ => by omega
  | k + 1,k' + 1,hk,ir,env,H,r,he => by
    have hk' : k ≤ k' := by omega
    cases ir with
    | skip => exact he
    | ret => exact he
    | exit id => exact he
    | seq a b =>
      simp only [exec] at he ⊢;cases h1 : exec F k a env H with
      | none => rw [h1] at he; cases he
      | some q =>
        rw [h1] at he;rw [exec_mono h k hk' h1];obtain ⟨x,e1,H1⟩ := q;cases x with
        | nrm => exact exec_mono h k hk' he
        | ret => exact he
        | ext i => exact he
        | pan v => exact he
    | cond c a b =>
      simp only [exec] at he ⊢
      split at he
      · exact exec_mono h k hk' he
      · cases he
    | block id b =>
      simp only [exec] at he ⊢;cases h1 : exec F k b env H with
      | none => rw [h1] at he; cases he
      | some q =>
        rw [h1] at he;rw [exec_mono h k hk' h1];exact he
    | loop b =>
      simp only [exec] at he ⊢;cases h1 : exec F k b env H with
      | none => rw [h1] at he; cases he
      | some q =>
        rw [h1] at he;rw [exec_mono h k hk' h1];obtain ⟨x,e1,H1⟩ := q;cases x with
        | nrm => exact exec_mono h k hk' he
        | ret => exact he
        | ext i => exact he
        | pan v => exact he
    | rgd ls ops =>
      simp only [exec] at he ⊢;cases h1 : exOps0 F H ops env H with
      | none => rw [h1] at he; cases he
      | some q =>
        rw [h1] at he; rw [exOps0_mono h h1];simp only at he ⊢
        split at he
        · rename_i hs; rw [if_pos (stays_mono h hs)]; exact he
        · cases he
    | rgn ops =>
      simp only [exec] at he ⊢;cases h1 : exOps F ops env H with
      | none => rw [h1] at he; cases he
      | some q => rw [h1] at he; rw [exOps_mono h h1]; exact he
    | clr ts b => simp only [exec] at he ⊢; exact exec_mono h k hk' he
    | scope b => simp only [exec] at he ⊢; exact exec_mono h k hk' he
    | fin ds b => simp only [exec] at he ⊢; exact exec_mono h k hk' he
    | frz b => simp only [exec] at he ⊢; exact exec_mono h k hk' he
    | dfr pre t cl caps b =>
      simp only [exec] at he ⊢;cases h1 : exOps F pre env H with
      | none => rw [h1] at he; cases he
      | some q =>
        rw [h1] at he; rw [exOps_mono h h1];simp only at he ⊢
        split at he
        · rename_i ht
          rw [if_pos ht];cases h2 : exec F k b (clrEnv [t] q.1) q.2 with
          | none => rw [h2] at he; cases he
          | some q2 =>
            rw [h2] at he;rw [exec_mono h k hk' h2];exact he
        · cases he
    | rpn ops x =>
      simp only [exec] at he ⊢;cases h1 : exOps F ops env H with
      | none => rw [h1] at he; cases he
      | some q => rw [h1] at he; rw [exOps_mono h h1]; exact he
    | rgp ops =>
      simp only [exec] at he ⊢;cases h1 : exOpsX F ops env H with
      | none => rw [h1] at he; cases he
      | some q => rw [h1] at he; rw [exOpsX_mono h h1]; exact he
    | rdp s ls ops =>
      simp only [exec] at he ⊢;cases h1 : exOps F ((ops.take s).map fun o => { o with lo := false }) env H with
      | none => rw [h1] at he; cases he
      | some q =>
        rw [h1] at he; rw [exOps_mono h h1];cases h2 : ops[s]? with
        | none => rw [h2] at he; cases he
        | some o =>
          rw [h2] at he;simp only at he ⊢;cases h3 : exOpX F o q.1 H with
          | none => rw [h3] at he; cases he
          | some r3 =>
            obtain ⟨p,e3,H3⟩ := r3;rw [h3] at he; rw [exOpX_mono h h3];cases p with
            | some v => exact he
            | none =>
              simp only at he ⊢;cases h4 : exOps0 F H ops env H with
              | none => rw [h4] at he; cases he
              | some q4 =>
                rw [h4] at he; rw [exOps0_mono h h4];simp only at he ⊢
                split at he
                · rename_i hs; rw [if_pos (stays_mono h hs)]; exact he
                · cases he
theorem exF_mono {T : Nat → Option IFun} : ∀ (k : Nat) {k' : Nat},k ≤ k' → FLe (exF T k) (exF T k')
  | 0,k',_ => ⟨fun f args H r h => by simp [exF] at h,fun f args H r h => by simp [exF] at h⟩
  | k + 1,0,hk => by omega
  | k + 1,k' + 1,hk => by
    have hk' : k ≤ k' := by omega
    constructor <;> intro f args H r h
    all_goals
      simp only [exF] at h ⊢;cases hT : T f with
      | none => rw [hT] at h; exact h
      | some g =>
        rw [hT] at h
        dsimp only at h ⊢
        cases he : exec (exF T k) k g.body (args ++ List.replicate (g.ntmps - args.length) .un) H with
        | none => rw [he] at h; cases h
        | some q =>
          rw [he] at h;rw [exec_mono (exF_mono k hk') k hk' he];exact h
def Fn (T : Nat → Option IFun) (f : Nat) (args : List V) (H : Heap) (Q : V → Heap → Prop) : Prop := ∃ k r H',exF T k f args H = some (r,H') ∧ Q r H'
def PC (T : Nat → Option IFun) (H : Heap) (f : Nat) (args : List V) (v : V) : Prop := ∃ k,pcall (exF T k) H (.fn f []) args = some v
def Run (T : Nat → Option IFun) (ir : Ir) (env : List V) (H : Heap) (Q : X → List V → Heap → Prop) : Prop := ∃ k x e h,exec (exF T k) k ir env H = some (x,e,h) ∧ Q x e h
def RunO (T : Nat → Option IFun) (ops : List IOp) (env : List V) (H : Heap) (Q : List V → Heap → Prop) : Prop := ∃ k e h,exOps (exF T k) ops env H = some (e,h) ∧ Q e h
def optB {α : Type} (o : Option α) (f : α → Prop) : Prop := ∃ a,o = some a ∧ f a
section
variable {T : Nat → Option IFun} {env : List V} {H : Heap}
theorem Run.mono {ir : Ir} {Q Q' : X → List V → Heap → Prop} (h : Run T ir env H Q) (hq : ∀ x e h,Q x e h → Q' x e h) : Run T ir env H Q' := by
  obtain ⟨k,x,e,H',h1,h2⟩ := h; exact ⟨k,x,e,H',h1,hq _ _ _ h2⟩
theorem Run.skip {Q : X → List V → Heap → Prop} (h : Q .nrm env H) : Run T .skip env H Q := ⟨1,_,_,_,rfl,h⟩
theorem Run.ret {Q : X → List V → Heap → Prop} (h : Q .ret env H) : Run T .ret env H Q := ⟨1,_,_,_,rfl,h⟩
theorem Run.exit {i : Nat} {Q : X → List V → Heap → Prop} (h : Q (.ext i) env H) : Run T (.exit i) env H Q := ⟨1,_,_,_,rfl,h⟩
def thn (T : Nat → Option IFun) (b : Ir) (Q : X → List V → Heap → Prop) : X → List V → Heap → Prop
  | .nrm,e,h => Run T b e h Q
  | x,e,h => Q x e h
theorem Run.seq {a b : Ir} {Q : X → List V → Heap → Prop} (h : Run T a env H (thn T b Q)) : Run T (.seq a b) env H Q := by
  obtain ⟨k,x,e,H',h1,h2⟩ := h;cases x with
  | nrm =>
    obtain ⟨k2,x2,e2,H2,h3,h4⟩ := h2;refine ⟨max k k2 + 1,x2,e2,H2,?_,h4⟩;have m1 := exec_mono (exF_mono k (show k ≤ max k k2 + 1 by omega)) k (show k ≤ max k k2 by omega) h1;have m2 := exec_mono (exF_mono k2 (show k2 ≤ max k k2 + 1 by omega)) k2 (show k2 ≤ max k k2 by omega) h3;simp only [exec,m1,m2]
  | ret => exact ⟨k + 1,.ret,e,H',by simp only [exec,exec_mono (exF_mono k (Nat.le_succ k)) k (Nat.le_refl k) h1],h2⟩
  | ext i => exact ⟨k + 1,.ext i,e,H',by simp only [exec,exec_mono (exF_mono k (Nat.le_succ k)) k (Nat.le_refl k) h1],h2⟩
  | pan v => exact ⟨k + 1,.pan v,e,H',by simp only [exec,exec_mono (exF_mono k (Nat.le_succ k)) k (Nat.le_refl k) h1],h2⟩
theorem Run.cond {c : Opd} {a b : Ir} {t : Bool} {Q : X → List V → Heap → Prop} (hc : c.ev env = .bool t) (h : Run T (if t then a else b) env H Q) : Run T (.cond c a b) env H Q := by
  obtain ⟨k,x,e,H',h1,h2⟩ := h;exact ⟨k + 1,x,e,H',by simp only [exec,hc,exec_mono (exF_mono k (Nat.le_succ k)) k (Nat.le_refl k) h1],h2⟩
theorem Run.clr {ts : List Nat} {b : Ir} {Q : X → List V → Heap → Prop} (h : Run T b (clrEnv ts env) H Q) : Run T (.clr ts b) env H Q := by
  obtain ⟨k,x,e,H',h1,h2⟩ := h;exact ⟨k + 1,x,e,H',by simp only [exec,exec_mono (exF_mono k (Nat.le_succ k)) k (Nat.le_refl k) h1],h2⟩
theorem Run.scope {b : Ir} {Q : X → List V → Heap → Prop} (h : Run T b env H Q) : Run T (.scope b) env H Q := by
  obtain ⟨k,x,e,H',h1,h2⟩ := h;exact ⟨k + 1,x,e,H',by simp only [exec,exec_mono (exF_mono k (Nat.le_succ k)) k (Nat.le_refl k) h1],h2⟩
def blk (i : Nat) (Q : X → List V → Heap → Prop) : X → List V → Heap → Prop
  | .ext j,e,h => if j = i then Q .nrm e h else Q (.ext j) e h
  | x,e,h => Q x e h
theorem Run.block {i : Nat} {b : Ir} {Q : X → List V → Heap → Prop} (h : Run T b env H (blk i Q)) : Run T (.block i b) env H Q := by
  obtain ⟨k,x,e,H',h1,h2⟩ := h;have m := exec_mono (exF_mono k (Nat.le_succ k)) k (Nat.le_refl k) h1;cases x with
  | nrm => exact ⟨k + 1,.nrm,e,H',by simp only [exec,m],h2⟩
  | ret => exact ⟨k + 1,.ret,e,H',by simp only [exec,m],h2⟩
  | pan v => exact ⟨k + 1,.pan v,e,H',by simp only [exec,m],h2⟩
  | ext j =>
    simp only [blk] at h2
    by_cases hj : j = i
    · rw [if_pos hj] at h2; exact ⟨k + 1,.nrm,e,H',by simp only [exec,m,hj,if_true],h2⟩
    · rw [if_neg hj] at h2; exact ⟨k + 1,.ext j,e,H',by simp only [exec,m,hj,if_false],h2⟩
theorem Run.rgn {ops : List IOp} {Q : X → List V → Heap → Prop} (h : RunO T ops env H (fun e h => Q .nrm e h)) : Run T (.rgn ops) env H Q := by
  obtain ⟨k,e,H',h1,h2⟩ := h;exact ⟨k + 1,.nrm,e,H',by simp only [exec,exOps_mono (exF_mono k (Nat.le_succ k)) h1],h2⟩
def rnd (I : Nat → List V → Heap → Prop) (n : Nat) (Q : X → List V → Heap → Prop) : X → List V → Heap → Prop
  | .nrm,e,h => ∃ m,m < n ∧ I m e h
  | x,e,h => Q x e h
theorem Run.loop {b : Ir} {Q : X → List V → Heap → Prop} (I : Nat → List V → Heap → Prop) (n : Nat) (h0 : I n env H) (hr : ∀ n e h,I n e h → Run T b e h (rnd I n Q)) : Run T (.loop b) env H Q := by
  induction n using Nat.strongRecOn generalizing env H with
  | _ n ih =>
    obtain ⟨k,x,e,H',h1,h2⟩ := hr n env H h0;cases x with
    | nrm =>
      obtain ⟨m,hm,hI⟩ := h2;obtain ⟨k2,x2,e2,H2,h3,h4⟩ := ih m hm hI;refine ⟨max k k2 + 1,x2,e2,H2,?_,h4⟩;have m1 := exec_mono (exF_mono k (show k ≤ max k k2 + 1 by omega)) k (show k ≤ max k k2 by omega) h1;have m2 := exec_mono (exF_mono k2 (show k2 ≤ max k k2 + 1 by omega)) k2 (show k2 ≤ max k k2 by omega) h3;simp only [exec,m1,m2]
    | ret => exact ⟨k + 1,.ret,e,H',by simp only [exec,exec_mono (exF_mono k (Nat.le_succ k)) k (Nat.le_refl k) h1],h2⟩
    | ext i => exact ⟨k + 1,.ext i,e,H',by simp only [exec,exec_mono (exF_mono k (Nat.le_succ k)) k (Nat.le_refl k) h1],h2⟩
    | pan v => exact ⟨k + 1,.pan v,e,H',by simp only [exec,exec_mono (exF_mono k (Nat.le_succ k)) k (Nat.le_refl k) h1],h2⟩
def noF : FT := ⟨fun _ _ _ => none,fun _ _ _ => none⟩
theorem noF_le (F : FT) : FLe noF F := ⟨fun _ _ _ _ h => (by cases h),fun _ _ _ _ h => (by cases h)⟩
theorem RunO.nil {Q : List V → Heap → Prop} (h : Q env H) : RunO T [] env H Q := ⟨0,_,_,rfl,h⟩
theorem RunO.op {o : IOp} {r : List IOp} {env1 : List V} {H1 : Heap} {Q : List V → Heap → Prop} (h : ∃ k,exOp (exF T k) o env H = some (env1,H1)) (hr : RunO T r env1 H1 Q) : RunO T (o :: r) env H Q := by
  obtain ⟨k,h⟩ := h;obtain ⟨k2,e,H2,h1,h2⟩ := hr;refine ⟨max k k2,e,H2,?_,h2⟩;simp only [exOps,exOp_mono (exF_mono k (show k ≤ max k k2 by omega)) h,exOps_mono (exF_mono k2 (show k2 ≤ max k k2 by omega)) h1]
theorem RunO.n {d : Option Nat} {lo : Bool} {kd : Kind} {r : List IOp} {Q : List V → Heap → Prop} (h : optB (exK noF ⟨d,none,lo,kd⟩ env H) (fun p => RunO T r p.1 p.2 Q)) : RunO T (⟨d,none,lo,kd⟩ :: r) env H Q := by
  obtain ⟨⟨e1,H1⟩,h1,h2⟩ := h;exact RunO.op ⟨0,exOp_mono (noF_le _) (o := ⟨d,none,lo,kd⟩) (by simpa [exOp] using h1)⟩ h2
theorem RunO.g {d : Option Nat} {t : Nat} {w : Bool} {lo : Bool} {kd : Kind} {r : List IOp} {Q : List V → Heap → Prop} (h : optB (exOp noF ⟨d,some (t,w),lo,kd⟩ env H) (fun p => RunO T r p.1 p.2 Q)) : RunO T (⟨d,some (t,w),lo,kd⟩ :: r) env H Q := by
  obtain ⟨⟨e1,H1⟩,h1,h2⟩ := h;exact RunO.op ⟨0,exOp_mono (noF_le _) h1⟩ h2
theorem RunO.c {d : Nat} {f : Nat} {args : List Opd} {r : List IOp} {v : V} {lo : Bool} {Q : List V → Heap → Prop} (hc : PC T (if lo then [] else H) f (args.map (·.ev env)) v) (h : RunO T r (env.set d v) H Q) :
    RunO T (⟨some d,none,lo,.call false (.c (.fn f [])) args⟩ :: r) env H Q := by
  obtain ⟨k,hk⟩ := hc;refine RunO.op ⟨k,?_⟩ h;have e0 : (Opd.c (.fn f [])).ev env = .fn f [] := rfl;simp only [exOp,exK,Kind.quiet,evq,e0,if_true];rw [hk]; rfl
theorem RunO.cs {d t : Nat} {w : Bool} {b : Bool} {kd : Kind} {r : List IOp} {lo : Bool} {Q : List V → Heap → Prop} (hg : env.getD t .un = .bool b) (hb : b ≠ w) (h : RunO T r (env.set d .sk) H Q) :
    RunO T (⟨some d,some (t,w),lo,kd⟩ :: r) env H Q := by
  refine RunO.op ⟨0,?_⟩ h;simp only [exOp,hg,hb,if_false]; rfl
theorem RunO.h {d : Option Nat} {f : Opd} {g : Nat} {caps : List V} {args : List Opd} {r : List IOp} {lo : Bool} {Q : List V → Heap → Prop} (hf : f.ev env = .fn g caps)
    (hc : Fn T g (args.map (·.ev env) ++ caps) H (fun v H' => RunO T r (put env d v) H' Q)) :
    RunO T (⟨d,none,lo,.call true f args⟩ :: r) env H Q := by
  obtain ⟨k,v,H',hk,h⟩ := hc;refine RunO.op ⟨k,?_⟩ h;simp only [exOp,exK,Kind.quiet,Bool.false_eq_true,if_false,evw,hf,hcall,hk]; rfl
theorem RunO.hb {d : Option Nat} {f : Opd} {g : Nat} {first : List V} {args : List Opd} {r : List IOp} {lo : Bool} {Q : List V → Heap → Prop} (hf : f.ev env = .bm g first)
    (hc : Fn T g (first ++ args.map (·.ev env)) H (fun v H' => RunO T r (put env d v) H' Q)) :
    RunO T (⟨d,none,lo,.call true f args⟩ :: r) env H Q := by
  obtain ⟨k,v,H',hk,h⟩ := hc;refine RunO.op ⟨k,?_⟩ h;simp only [exOp,exK,Kind.quiet,Bool.false_eq_true,if_false,evw,hf,hcall,hk]; rfl
def fin (res : List Nat) (Q : V → Heap → Prop) : X → List V → Heap → Prop
  | .nrm,e,h => Q (resV res e) h
  | .ret,e,h => Q (resV res e) h
  | .ext _,_,_ => False
  | .pan _,_,_ => False
theorem Fn.enter {f : Nat} {g : IFun} {args : List V} {Q : V → Heap → Prop} (hT : T f = some g) (h : Run T g.body (args ++ List.replicate (g.ntmps - args.length) .un) H (fin g.res Q)) (hb : g.body.cells = none := by rfl) (hz : g.body.isFrz = false := by rfl) : Fn T f args H Q := by
  obtain ⟨k,x,e,H',h1,h2⟩ := h;cases x with
  | nrm => exact ⟨k + 1,_,_,by simp only [exF,hT,h1,hb,resW,Option.bind_some,hz,frzR],h2⟩
  | ret => exact ⟨k + 1,_,_,by simp only [exF,hT,h1,hb,resW,Option.bind_some,hz,frzR],h2⟩
  | ext i => exact h2.elim
  | pan v => exact h2.elim
theorem Fn.mono {f : Nat} {args : List V} {Q Q' : V → Heap → Prop} (h : Fn T f args H Q) (hq : ∀ r h,Q r h → Q' r h) : Fn T f args H Q' := by
  obtain ⟨k,r,H',h1,h2⟩ := h; exact ⟨k,r,H',h1,hq _ _ h2⟩
theorem PC.of {f : Nat} {args : List V} {v : V} (hfree : args.all (V.free deepN) = true) (h : Fn T f args [] (fun r Hc => deep false Hc deepN r = some v)) (hd : omap (deep false H deepN) args = some args := by rfl) : PC T H f args v := by
  obtain ⟨k,r,Hc,h1,h2⟩ := h;refine ⟨k,?_⟩;simp only [pcall,hd,Option.bind_some,h1,hfree,Bool.not_true]; exact h2
end
theorem RunO.all {T : Nat → Option IFun} {ops : List IOp} {env : List V} {H : Heap} {Q : List V → Heap → Prop} (h : optB (exOps noF ops env H) (fun p => Q p.1 p.2)) : RunO T ops env H Q := by
  obtain ⟨⟨e,h'⟩,h1,h2⟩ := h;exact ⟨0,e,h',exOps_mono (noF_le _) h1,h2⟩
def bindO (o : Option (List V × Heap)) (f : List V → Heap → Option (List V × Heap)) : Option (List V × Heap) := match o with | some (e,h) => f e h | none => none
theorem exOps_cons (F : FT) (o : IOp) (r : List IOp) (env : List V) (H : Heap) : exOps F (o :: r) env H = bindO (exOp F o env H) (exOps F r) := rfl
section
variable (F : FT) (env : List V) (H : Heap) (d : Option Nat) (lo : Bool)
theorem exOp_gt (t : Nat) (w : Bool) (k : Kind) (h : env.getD t .un = .bool w) : exOp F ⟨d,some (t,w),lo,k⟩ env H = exOp F ⟨d,none,lo,k⟩ env H := by
  simp only [exOp,h,if_true,exK]
end
theorem Run.ite {T : Nat → Option IFun} {env : List V} {H : Heap} {c : Opd} {a b : Ir} {t : Bool} {Q : X → List V → Heap → Prop} (hc : c.ev env = .bool t) (h1 : t = true → Run T a env H Q) (h2 : t = false → Run T b env H Q) :
    Run T (.cond c a b) env H Q := by
  cases t with
  | true => exact Run.cond hc (h1 rfl)
  | false => exact Run.cond hc (h2 rfl)
theorem idxaV_fz {xs : List V} {k : IntKind} {n : Int} {z : Nat} {ag : Bool} {e : V} (h0 : 0 ≤ n) (h : xs[n.toNat]? = some e) (hok : okEl z ag e = true) : idxaV (.fz xs) (.int k n) z ag = some (.fp e) := by
  simp only [idxaV,h0,if_true,h,Option.bind_some,hok]
def vi (n : Int) : V := .int .i64 n
def vis (l : List Int) : V := .fz (l.map vi)
theorem idx_vis {l : List Int} {n : Int} (h0 : 0 ≤ n) (h : n < l.length) : idxaV (vis l) (.int .i64 n) 1 false = some (.fp (.int .i64 (l.getD n.toNat 0))) := by
  refine idxaV_fz h0 ?_ rfl;have : n.toNat < l.length := by omega
  simp [this,vi]
theorem len_vis (l : List Int) : lenV false (vis l) = some (.int .i64 (l.length : Int)) := by simp [vis,lenV]
theorem wrap64_in {x : Int} (h0 : -9223372036854775808 ≤ x) (h1 : x ≤ 9223372036854775807) : IntKind.i64.wrap x = x := by
  rw [IntKind.wrap_i64]; omega
theorem exOps_app {F : FT} : ∀ {a b : List IOp} {env : List V} {H : Heap},exOps F (a ++ b) env H = bindO (exOps F a env H) (exOps F b)
  | [],b,env,H => rfl
  | o :: a,b,env,H => by
    rw [List.cons_append,exOps_cons,exOps_cons];cases h : exOp F o env H with
    | none => rfl
    | some p => simp only [bindO]; exact exOps_app
theorem RunO.app {T : Nat → Option IFun} {a b : List IOp} {env : List V} {H : Heap} {Q : List V → Heap → Prop} (h : RunO T a env H (fun e h => RunO T b e h Q)) : RunO T (a ++ b) env H Q := by
  obtain ⟨k,e,h',h1,k2,e2,h2,h3,h4⟩ := h;refine ⟨max k k2,e2,h2,?_,h4⟩;rw [exOps_app,exOps_mono (exF_mono k (show k ≤ max k k2 by omega)) h1];exact exOps_mono (exF_mono k2 (show k2 ≤ max k k2 by omega)) h3
theorem RunO.pre {T : Nat → Option IFun} (n : Nat) {ops : List IOp} {env : List V} {H : Heap} {Q : List V → Heap → Prop} (h : optB (exOps noF (ops.take n) env H) (fun p => RunO T (ops.drop n) p.1 p.2 Q)) : RunO T ops env H Q := by
  rw [← List.take_append_drop n ops];exact RunO.app (RunO.all h)
theorem RunO.hg {T : Nat → Option IFun} {env : List V} {H : Heap} {d : Option Nat} {t : Nat} {w : Bool} {f : Opd} {g : Nat} {caps : List V} {args : List Opd} {r : List IOp} {lo : Bool} {Q : List V → Heap → Prop} (hg : env.getD t .un = .bool w) (hf : f.ev env = .fn g caps)
    (hc : Fn T g (args.map (·.ev env) ++ caps) H (fun v H' => RunO T r (put env d v) H' Q)) :
    RunO T (⟨d,some (t,w),lo,.call true f args⟩ :: r) env H Q := by
  obtain ⟨k,v,H',hk,h⟩ := hc;refine RunO.op ⟨k,?_⟩ h;simp only [exOp,hg,if_true,exK,Kind.quiet,Bool.false_eq_true,if_false,evw,hf,hcall,hk]; rfl
end Go.Eng
namespace Go.Eng
open Go
set_option linter.unusedSectionVars false
set_option linter.unusedVariables false
set_option linter.unusedSimpArgs false
variable [Xtn]
theorem rdB_of {H : Heap} {b g : Nat} {cs : List V} (h : H[b]? = some (g,cs)) : rdB H b g = some cs := by simp [rdB,h]
def RowV (H : Heap) (v : V) (r : List Int) (loc : Option (Nat × Nat)) : Prop :=
  match loc with
  | none => v = .nils ∧ r = []
  | some (c,g) => v = .sl c g 0 r.length 1 false ∧ H[c]? = some (g,r.map vi)
structure Grid (base : Nat) (H : Heap) (b : Nat) (rows : List (List Int)) (vs : List V) (loc : Nat → Option (Nat × Nat)) : Prop where
  out : H[b]? = some (0,vs)
  len : vs.length = rows.length
  row : ∀ (k : Nat) (r : List Int),rows[k]? = some r → ∃ v,vs[k]? = some v ∧ RowV H v r (loc k)
  low : base ≤ b ∧ ∀ (k c g : Nat),loc k = some (c,g) → k < rows.length ∧ base ≤ c ∧ c ≠ b
  inj : ∀ (k j c g g' : Nat),loc k = some (c,g) → loc j = some (c,g') → k = j
theorem app_nils (H : Heap) (x : Int) : appV H .nils (.fz [.int .i64 x]) 1 false 8 = some (.sl H.length 0 0 1 1 false,H ++ [(0,[vi x])]) := by
  simp [appV,newCells,hdOk,V.cells,V.isCell,vi]
theorem app_own {H : Heap} {c g : Nat} {r : List Int} (h : H[c]? = some (g,r.map vi)) (hl : r.length ≤ 1099511627776) (x : Int) :
    appV H (.sl c g 0 r.length 1 false) (.fz [.int .i64 x]) 1 false 8 = some (.sl c (g + 1) 0 (r.length + 1) 1 false,H.set c (g + 1,(r ++ [x]).map vi)) := by
  have hf : (r.length + 1) * 8 ≤ 140737488355328 := by omega
  simp [appV,newCells,hdOk,V.cells,V.isCell,rdB_of h,vi,hf]
  rw [List.take_of_length_le (by simp)]
theorem Grid.app {base : Nat} {H : Heap} {b : Nat} {rows : List (List Int)} {vs : List V} {loc : Nat → Option (Nat × Nat)} (G : Grid base H b rows vs loc) {k : Nat} {r : List Int} (hk : rows[k]? = some r) (hl : r.length ≤ 1099511627776) (x : Int) :
    ∃ v v' H1 H2 loc',vs[k]? = some v ∧ fitsSh v none = true ∧ appV H v (.fz [.int .i64 x]) 1 false 8 = some (v',H1) ∧ H1[b]? = some (0,vs) ∧ fitsSh v' none = true ∧ H2 = H1.set b (0,vs.set k v') ∧ stV H1 (.ptr b 0 k) v' none = some H2 ∧
      Grid base H2 b (rows.set k (r ++ [x])) (vs.set k v') loc' ∧ (∀ c,c < base → c < H.length → H2[c]? = H[c]?) ∧ H.length ≤ H2.length := by
  obtain ⟨v,hv,hr⟩ := G.row k r hk;have hkl : k < rows.length := (List.getElem?_eq_some_iff.mp hk).1;have hbl : b < H.length := (List.getElem?_eq_some_iff.mp G.out).1;have stv : ∀ (H1 : Heap) (c g n : Nat),H1[b]? = some (0,vs) → stV H1 (.ptr b 0 k) (.sl c g 0 n 1 false) none = some (H1.set b (0,vs.set k (.sl c g 0 n 1 false))) := by
    intro H1 c g n h1;have hfit : k + 1 ≤ vs.length := by rw [G.len]; omega
    simp [stV,rdB_of h1,fitsSh,V.isCell,V.cells,hfit]
  unfold RowV at hr;cases hloc : loc k with
  | none =>
    rw [hloc] at hr;obtain ⟨rfl,rfl⟩ := hr;have hb1 : (H ++ [(0,[vi x])])[b]? = some (0,vs) := by rw [List.getElem?_append_left hbl]; exact G.out
    refine ⟨.nils,_,_,_,fun j => if j = k then some (H.length,0) else loc j,hv,rfl,app_nils H x,hb1,rfl,rfl,stv _ _ _ _ hb1,?_,?_,by simp⟩
    · have hnew : ((H ++ [(0,[vi x])]).set b (0,vs.set k (.sl H.length 0 0 1 1 false)))[H.length]? = some (0,[vi x]) := by
        rw [List.getElem?_set_ne (by omega)]; simp
      refine ⟨by rw [List.getElem?_set_self (by rw [List.length_append]; omega)],by simp [G.len],?_,⟨G.low.1,?_⟩,?_⟩
      · intro j rj hj
        by_cases hjk : j = k
        · subst hjk;rw [List.getElem?_set_self hkl] at hj; cases hj;refine ⟨_,by rw [List.getElem?_set_self (by rw [G.len]; exact hkl)],?_⟩;simp only [RowV,if_true];exact ⟨rfl,by simpa using hnew⟩
        · rw [List.getElem?_set_ne (Ne.symm hjk)] at hj;obtain ⟨w,hw,hrw⟩ := G.row j rj hj;refine ⟨w,by rw [List.getElem?_set_ne (Ne.symm hjk)]; exact hw,?_⟩;simp only [RowV,if_neg hjk] at hrw ⊢;cases hlj : loc j with
          | none => rw [hlj] at hrw; exact hrw
          | some p =>
            obtain ⟨c,g⟩ := p;rw [hlj] at hrw;have hcl : c < H.length := (List.getElem?_eq_some_iff.mp hrw.2).1;refine ⟨hrw.1,?_⟩;rw [List.getElem?_set_ne (Ne.symm (G.low.2 j c g hlj).2.2),List.getElem?_append_left hcl]; exact hrw.2
      · intro j c g hjl
        by_cases hjk : j = k
        · subst hjk;simp only [if_true,Option.some.injEq,Prod.mk.injEq] at hjl;have := G.low.1;exact ⟨by simpa using hkl,by omega,by omega⟩
        · simp only [if_neg hjk] at hjl;obtain ⟨h1,h2,h3⟩ := G.low.2 j c g hjl;exact ⟨by simpa using h1,h2,h3⟩
      · intro j j' c g g' hj hj';have lt : ∀ m c g,loc m = some (c,g) → c < H.length := by
          intro m c g hm;obtain ⟨w,_,hrw⟩ := G.row m _ (List.getElem?_eq_getElem (G.low.2 m c g hm).1);rw [hm] at hrw;exact (List.getElem?_eq_some_iff.mp hrw.2).1
        by_cases h1 : j = k <;> by_cases h2 : j' = k
        · omega
        · simp only [h1,if_true,Option.some.injEq,Prod.mk.injEq] at hj;simp only [if_neg h2] at hj';have := lt _ _ _ hj'; omega
        · simp only [h2,if_true,Option.some.injEq,Prod.mk.injEq] at hj';simp only [if_neg h1] at hj;have := lt _ _ _ hj; omega
        · simp only [if_neg h1] at hj;simp only [if_neg h2] at hj';exact G.inj _ _ _ _ _ hj hj'
    · intro c hc hcl;have := G.low.1;rw [List.getElem?_set_ne (by omega),List.getElem?_append_left hcl]
  | some p =>
    obtain ⟨c,g⟩ := p;rw [hloc] at hr;obtain ⟨rfl,hc⟩ := hr;obtain ⟨_,hcb,hcne⟩ := G.low.2 k c g hloc;have hcl : c < H.length := (List.getElem?_eq_some_iff.mp hc).1;have hb1 : (H.set c (g + 1,(r ++ [x]).map vi))[b]? = some (0,vs) := by rw [List.getElem?_set_ne hcne]; exact G.out
    refine ⟨_,_,_,_,fun j => if j = k then some (c,g + 1) else loc j,hv,rfl,app_own hc hl x,hb1,rfl,rfl,stv _ _ _ _ hb1,?_,?_,by simp⟩
    · refine ⟨by simp [hbl],by simp [G.len],?_,⟨G.low.1,?_⟩,?_⟩
      · intro j rj hj
        by_cases hjk : j = k
        · subst hjk;rw [List.getElem?_set_self hkl] at hj; cases hj;refine ⟨_,by rw [List.getElem?_set_self (by rw [G.len]; exact hkl)],?_⟩;simp only [RowV,if_true];refine ⟨by simp,?_⟩;rw [List.getElem?_set_ne (Ne.symm hcne),List.getElem?_set_self hcl]
        · rw [List.getElem?_set_ne (Ne.symm hjk)] at hj;obtain ⟨w,hw,hrw⟩ := G.row j rj hj;refine ⟨w,by rw [List.getElem?_set_ne (Ne.symm hjk)]; exact hw,?_⟩;simp only [RowV,if_neg hjk] at hrw ⊢;cases hlj : loc j with
          | none => rw [hlj] at hrw; exact hrw
          | some p =>
            obtain ⟨c',g'⟩ := p;rw [hlj] at hrw;have hne : c ≠ c' := by rintro rfl; exact hjk (G.inj _ _ _ _ _ hlj hloc)
            refine ⟨hrw.1,?_⟩;rw [List.getElem?_set_ne (Ne.symm (G.low.2 j c' g' hlj).2.2),List.getElem?_set_ne hne]; exact hrw.2
      · intro j c' g' hjl
        by_cases hjk : j = k
        · subst hjk;simp only [if_true,Option.some.injEq,Prod.mk.injEq] at hjl;obtain ⟨rfl,rfl⟩ := hjl;exact ⟨by simpa using hkl,hcb,hcne⟩
        · simp only [if_neg hjk] at hjl;obtain ⟨h1,h2,h3⟩ := G.low.2 j c' g' hjl;exact ⟨by simpa using h1,h2,h3⟩
      · intro j j' c' g1 g2 hj hj'
        by_cases h1 : j = k <;> by_cases h2 : j' = k
        · omega
        · simp only [h1,if_true,Option.some.injEq,Prod.mk.injEq] at hj;simp only [if_neg h2] at hj';obtain ⟨rfl,_⟩ := hj;exact absurd (G.inj _ _ _ _ _ hj' hloc) h2
        · simp only [h2,if_true,Option.some.injEq,Prod.mk.injEq] at hj';simp only [if_neg h1] at hj;obtain ⟨rfl,_⟩ := hj';exact absurd (G.inj _ _ _ _ _ hj hloc) h1
        · simp only [if_neg h1] at hj;simp only [if_neg h2] at hj';exact G.inj _ _ _ _ _ hj hj'
    · intro c' hc' hcl';have := G.low.1;rw [List.getElem?_set_ne (by omega),List.getElem?_set_ne (by omega)]
theorem Grid.make (base : Nat) (H : Heap) (n : Nat) (hb : base ≤ H.length) : Grid base (H ++ [(0,List.replicate n V.nils)]) H.length (List.replicate n []) (List.replicate n V.nils) (fun _ => none) := by
  refine ⟨by simp,by simp,?_,⟨hb,fun k c g h => by cases h⟩,fun k j c g g' h => by cases h⟩;intro k r hk;rw [List.getElem?_replicate] at hk
  split at hk
  · rename_i hlt; cases hk
    exact ⟨.nils,by rw [List.getElem?_replicate,if_pos hlt],rfl,rfl⟩
  · cases hk
def drow (f : V → Option V) (ag : Bool) (r : List V) : Option V := if ag then (omap f r).map .ag else match r with | [c] => (f c).bind fun u => if u.isAg then none else some u | _ => none
theorem deep_sl (strict : Bool) (H : Heap) (n b g off len z : Nat) (ag : Bool) : deep strict H (n + 1) (.sl b g off len z ag) = (rdB H b g).bind fun cs =>
    if off + len * z ≤ cs.length ∧ 0 < z ∧ (ag = true ∨ z = 1) then (omap (drow (deep strict H n) ag) (rows z len (cs.drop off))).map .fz else none := rfl
theorem drow_one (f : V → Option V) (c : V) : drow f false [c] = (f c).bind fun u => if u.isAg then none else some u := rfl
theorem rows_one : ∀ (n : Nat) (l : List V),l.length = n → rows 1 n l = l.map fun v => [v]
  | 0,l,h => by have : l = [] := List.eq_nil_of_length_eq_zero h; subst this; rfl
  | n + 1,v :: l,h => by
    simp only [rows,List.take_succ_cons,List.take_zero,List.drop_succ_cons,List.drop_zero,List.map_cons];rw [rows_one n l (by simpa using h)]
  | n + 1,[],h => by simp at h
theorem omap_map {α β γ : Type} (f : α → β) (g : β → Option γ) (h : α → γ) : ∀ (l : List α),(∀ a ∈ l,g (f a) = some (h a)) → omap g (l.map f) = some (l.map h)
  | [],_ => rfl
  | a :: l,hh => by
    have h0 := hh a (by simp);have ih := omap_map f g h l (fun b hb => hh b (by simp [hb]))
    simp [omap,h0,ih]
theorem deep_ints {strict : Bool} {H : Heap} {c g n : Nat} {r : List Int} (h : H[c]? = some (g,r.map vi)) : deep strict H (n + 2) (.sl c g 0 r.length 1 false) = some (vis r) := by
  rw [deep_sl,rdB_of h,Option.bind_some,if_pos (by simp),List.drop_zero,rows_one r.length (r.map vi) (by simp),List.map_map];have := omap_map (fun x : Int => [vi x]) (drow (deep strict H (n + 1)) false) vi r (fun a _ => rfl);simp only [Function.comp_def];rw [this]; rfl
theorem Grid.deep {strict : Bool} {base : Nat} {H : Heap} {b : Nat} {rows : List (List Int)} {vs : List V} {loc : Nat → Option (Nat × Nat)} (G : Grid base H b rows vs loc) (hne : strict = false ∨ True) :
    ∃ ws : List V,Go.Eng.deep strict H deepN (.sl b 0 0 rows.length 1 false) = some (.fz ws) ∧ ws.length = rows.length ∧ ∀ (k : Nat) (r : List Int),rows[k]? = some r → ws[k]? = some (vis r) ∨ (r = [] ∧ ws[k]? = some (.fz [])) := by
  have key : ∀ (k : Nat) (v : V),vs[k]? = some v → ∃ w,(Go.Eng.deep strict H 39 v).bind (fun u => if u.isAg then none else some u) = some w ∧ ∀ r,rows[k]? = some r → w = vis r ∨ (r = [] ∧ w = .fz []) := by
    intro k v hv;have hkl : k < rows.length := by rw [← G.len]; exact (List.getElem?_eq_some_iff.mp hv).1
    obtain ⟨v',hv',hr⟩ := G.row k _ (List.getElem?_eq_getElem hkl);rw [hv] at hv'; cases hv';unfold RowV at hr
    split at hr
    · obtain ⟨rfl,hrr⟩ := hr;exact ⟨.fz [],rfl,fun r h => .inr ⟨by rw [List.getElem?_eq_getElem hkl] at h; cases h; exact hrr,rfl⟩⟩
    · rename_i c g hl
      obtain ⟨rfl,hc⟩ := hr;exact ⟨vis rows[k],by rw [deep_ints (n := 37) hc]; rfl,fun r h => .inl (by rw [List.getElem?_eq_getElem hkl] at h; cases h; rfl)⟩
  have build : ∀ (l : List V),(∀ (k : Nat) (v : V),l[k]? = some v → ∃ w,(Go.Eng.deep strict H 39 v).bind (fun u => if u.isAg then none else some u) = some w) →
      ∃ ws,omap (drow (Go.Eng.deep strict H 39) false) (l.map fun v => [v]) = some ws ∧ ws.length = l.length ∧
        ∀ (k : Nat) (v : V),l[k]? = some v → ∃ w,ws[k]? = some w ∧ (Go.Eng.deep strict H 39 v).bind (fun u => if u.isAg then none else some u) = some w := by
    intro l
    induction l with
    | nil => intro _; exact ⟨[],rfl,rfl,fun k v h => by simp at h⟩
    | cons v l ih =>
      intro h;obtain ⟨w,hw⟩ := h 0 v (by simp);obtain ⟨ws,h1,h2,h3⟩ := ih (fun k u hu => h (k + 1) u (by simpa using hu));refine ⟨w :: ws,?_,by simp [h2],fun k u hu => ?_⟩
      · simp only [List.map_cons,omap,h1,drow_one,hw]
      · cases k with
        | zero => simp at hu; subst hu; exact ⟨w,by simp,hw⟩
        | succ k => simpa using h3 k u (by simpa using hu)
  obtain ⟨ws,h1,h2,h3⟩ := build vs (fun k v hv => by obtain ⟨w,hw,_⟩ := key k v hv; exact ⟨w,hw⟩);refine ⟨ws,?_,by rw [h2,G.len],fun k r hk => ?_⟩
  · show Go.Eng.deep strict H (39 + 1) (.sl b 0 0 rows.length 1 false) = some (.fz ws);rw [deep_sl,rdB_of G.out,Option.bind_some,if_pos (by simp [G.len]),List.drop_zero,rows_one rows.length vs G.len,h1]; rfl
  · have hkl : k < vs.length := by rw [G.len]; exact (List.getElem?_eq_some_iff.mp hk).1
    obtain ⟨w,hw,he⟩ := h3 k _ (List.getElem?_eq_getElem hkl);obtain ⟨w',he',hr⟩ := key k _ (List.getElem?_eq_getElem hkl);rw [he] at he'; cases he';rcases hr r hk with rfl | ⟨rfl,rfl⟩
    · exact .inl hw
    · exact .inr ⟨rfl,hw⟩
def IsInts (w : V) (r : List Int) : Prop := w = vis r ∨ (r = [] ∧ w = .nils)
theorem IsInts.vis (r : List Int) : IsInts (vis r) r := .inl rfl
theorem IsInts.len {w : V} {r : List Int} (h : IsInts w r) : lenV false w = some (.int .i64 (r.length : Int)) := by
  rcases h with rfl | ⟨rfl,rfl⟩
  · exact len_vis r
  · rfl
theorem IsInts.idx {w : V} {r : List Int} (h : IsInts w r) {n : Int} (h0 : 0 ≤ n) (h1 : n < r.length) : idxaV w (.int .i64 n) 1 false = some (.fp (.int .i64 (r.getD n.toNat 0))) := by
  rcases h with rfl | ⟨rfl,rfl⟩
  · exact idx_vis h0 h1
  · simp at h1; omega
theorem IsInts.free {w : V} {r : List Int} (h : IsInts w r) : V.free deepN w = true := by
  rcases h with rfl | ⟨rfl,rfl⟩ <;> rfl
theorem IsInts.cells {w : V} {r : List Int} (h : IsInts w r) : okEl 1 false w = true := by
  rcases h with rfl | ⟨rfl,rfl⟩ <;> rfl
theorem IsInts.fits {w : V} {r : List Int} (h : IsInts w r) : fitsSh w none = true := by
  rcases h with rfl | ⟨rfl,rfl⟩ <;> rfl
def IsRows (ws : List V) (rows : List (List Int)) : Prop := ws.length = rows.length ∧ ∀ (k : Nat) (r : List Int),rows[k]? = some r → ∃ w,ws[k]? = some w ∧ IsInts w r
theorem IsRows.idx {ws : List V} {rows : List (List Int)} (h : IsRows ws rows) {n : Int} (h0 : 0 ≤ n) (h1 : n < rows.length) : ∃ w,IsInts w (rows.getD n.toNat []) ∧ idxaV (.fz ws) (.int .i64 n) 1 false = some (.fp w) ∧ ldV [] (.fp w) none = some w ∧ ∀ H,ldV H (.fp w) none = some w := by
  have hl : n.toNat < rows.length := by omega
  obtain ⟨w,hw,hi⟩ := h.2 n.toNat _ (List.getElem?_eq_getElem hl);have e : rows.getD n.toNat [] = rows[n.toNat] := by simp [List.getD,hl]
  exact ⟨w,by rw [e]; exact hi,idxaV_fz h0 hw hi.cells,by simp only [ldV,hi.fits,if_true],fun H => by simp only [ldV,hi.fits,if_true]⟩
theorem PC.ex {T : Nat → Option IFun} {H : Heap} {f : Nat} {args : List V} {P : V → Prop} (hfree : args.all (V.free deepN) = true) (h : Fn T f args [] (fun r Hc => ∃ w,deep false Hc deepN r = some w ∧ P w)) (hd : omap (deep false H deepN) args = some args := by rfl) : ∃ w,P w ∧ PC T H f args w := by
  obtain ⟨k,r,Hc,h1,w,h2,h3⟩ := h;exact ⟨w,h3,PC.of hfree ⟨k,r,Hc,h1,h2⟩ hd⟩
end Go.Eng
namespace Go.Eng
open Go
variable [Xtn]
theorem ite_t {α : Sort _} {c : Bool} {a b : α} (h : c = true) : (if c then a else b) = a := by rw [if_pos h]
theorem ite_f {α : Sort _} {c : Bool} {a b : α} (h : c = false) : (if c then a else b) = b := by rw [if_neg (by rw [h]; decide)]
def again (T : Nat → Option IFun) (b : Ir) (Q : X → List V → Heap → Prop) : X → List V → Heap → Prop
  | .nrm,e,h => Run T (.loop b) e h Q
  | x,e,h => Q x e h
theorem Run.loop1 {T : Nat → Option IFun} {env : List V} {H : Heap} {b : Ir} {Q : X → List V → Heap → Prop} (h : Run T b env H (again T b Q)) : Run T (.loop b) env H Q := by
  obtain ⟨k,x,e,H',h1,h2⟩ := h;cases x with
  | nrm =>
    obtain ⟨k2,x2,e2,H2,h3,h4⟩ := h2;refine ⟨max k k2 + 1,x2,e2,H2,?_,h4⟩;have m1 := exec_mono (exF_mono k (show k ≤ max k k2 + 1 by omega)) k (show k ≤ max k k2 by omega) h1;have m2 := exec_mono (exF_mono k2 (show k2 ≤ max k k2 + 1 by omega)) k2 (show k2 ≤ max k k2 by omega) h3;simp only [exec,m1,m2]
  | ret => exact ⟨k + 1,.ret,e,H',by simp only [exec,exec_mono (exF_mono k (Nat.le_succ k)) k (Nat.le_refl k) h1],h2⟩
  | ext i => exact ⟨k + 1,.ext i,e,H',by simp only [exec,exec_mono (exF_mono k (Nat.le_succ k)) k (Nat.le_refl k) h1],h2⟩
  | pan v => exact ⟨k + 1,.pan v,e,H',by simp only [exec,exec_mono (exF_mono k (Nat.le_succ k)) k (Nat.le_refl k) h1],h2⟩
end Go.Eng
namespace Go.Eng
open Go
set_option linter.unusedSectionVars false
set_option linter.unusedVariables false
set_option linter.unusedSimpArgs false
variable [Xtn]
end Go.Eng
