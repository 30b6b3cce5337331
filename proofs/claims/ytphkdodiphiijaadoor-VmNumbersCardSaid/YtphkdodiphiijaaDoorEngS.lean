/- Rules to run the small machine's texts on unknown values (no condition beyond those stated). -/
import Derived.Test.YtphkdodiphiijaaDoorEngN
namespace Go.Eng
open Go
set_option linter.unusedSectionVars false
set_option linter.unusedVariables false
set_option linter.unusedSimpArgs false

def FLe (F F' : FT) : Prop := ∀ f args H r, F f args H = some r → F' f args H = some r
theorem FLe.refl (F : FT) : FLe F F := fun _ _ _ _ h => h

theorem pcall_mono {F F' : FT} (h : FLe F F') {H : Heap} {f : V} {args : List V} {v : V} (hp : pcall F H f args = some v) : pcall F' H f args = some v := by
  unfold pcall at hp ⊢
  split at hp
  · simp only [Option.bind_eq_some_iff] at hp ⊢
    obtain ⟨us, hus, r, hr, hd⟩ := hp
    exact ⟨us, hus, r, h _ _ _ _ hr, hd⟩
  · cases hp

theorem clnV_mono {F F' : FT} (h : FLe F F') {f v : V} (he : clnV F f = some v) : clnV F' f = some v := by
  unfold clnV at he ⊢
  split at he
  · simp only [Option.bind_eq_some_iff] at he ⊢
    obtain ⟨r, hr, q, hq, he⟩ := he
    exact ⟨r, h _ _ _ _ hr, q, h _ _ _ _ hq, he⟩
  · cases he
theorem evq_mono {F F' : FT} (h : FLe F F') {env : List V} {H : Heap} {k : Kind} {v : V} (he : evq F env H k = some v) : evq F' env H k = some v := by
  cases k <;> try exact he
  case box x fr => cases fr <;> exact he
  case bsl z ag n zero ps fr => cases fr <;> exact he
  case call hp f args =>
    cases hp with
    | true => exact he
    | false => exact pcall_mono h he
  case cln hp f x =>
    cases hp with
    | true => exact he
    | false =>
      simp only [evq] at he ⊢
      split at he
      · rename_i hE; rw [if_pos hE]; exact clnV_mono h he
      · rename_i hE; rw [if_neg hE]; exact pcall_mono h he

theorem evw_mono {F F' : FT} (h : FLe F F') {env : List V} {H : Heap} {k : Kind} {r : V × Heap} (he : evw F env H k = some r) : evw F' env H k = some r := by
  cases k <;> try exact he
  case box x fr => cases fr <;> exact he
  case bsl z ag n zero ps fr => cases fr <;> exact he
  case call hp f args =>
    cases hp with
    | false => exact he
    | true =>
      simp only [evw] at he ⊢
      unfold hcall at he ⊢
      split at he
      · exact h _ _ _ _ he
      · exact h _ _ _ _ he
      · cases he
  case cln hp f x =>
    cases hp with
    | false => exact he
    | true =>
      simp only [evw] at he ⊢
      split at he
      · rename_i hE
        rw [if_pos hE]
        simp only [Option.map_eq_some_iff] at he ⊢
        obtain ⟨w, hw, e⟩ := he
        exact ⟨w, clnV_mono h hw, e⟩
      · rename_i hE
        rw [if_neg hE]
        unfold cln1 at he ⊢
        split at he
        · split at he
          · rename_i hf
            rw [if_pos hf]
            simp only [Option.bind_eq_some_iff] at he ⊢
            obtain ⟨q, h1, h2⟩ := he
            exact ⟨q, h _ _ _ _ h1, h2⟩
          · cases he
        · cases he

theorem exK_mono {F F' : FT} (h : FLe F F') {o : IOp} {env : List V} {H : Heap} {r : List V × Heap} (he : exK F o env H = some r) : exK F' o env H = some r := by
  unfold exK at he ⊢
  split at he
  · rename_i hq
    simp only [Option.map_eq_some_iff] at he
    obtain ⟨v, hv, rfl⟩ := he
    rw [if_pos hq, evq_mono h hv]; rfl
  · rename_i hq
    simp only [Option.map_eq_some_iff] at he
    obtain ⟨v, hv, rfl⟩ := he
    rw [if_neg hq, evw_mono h hv]; rfl

theorem exOp_mono {F F' : FT} (h : FLe F F') {o : IOp} {env : List V} {H : Heap} {r : List V × Heap} (he : exOp F o env H = some r) : exOp F' o env H = some r := by
  unfold exOp at he ⊢
  cases hg : o.guard with
  | none => rw [hg] at he; exact exK_mono h he
  | some p =>
    obtain ⟨t, w⟩ := p
    rw [hg] at he
    dsimp only at he ⊢
    cases hv : env.getD t .un <;> rw [hv] at he <;> dsimp only at he ⊢ <;> (try exact he)
    split at he
    · rename_i hb; rw [if_pos hb]; exact exK_mono h he
    · rename_i hb; rw [if_neg hb]; exact he

theorem exOps_mono {F F' : FT} (h : FLe F F') : ∀ {ops : List IOp} {env : List V} {H : Heap} {r : List V × Heap}, exOps F ops env H = some r → exOps F' ops env H = some r
  | [], _, _, _, he => he
  | o :: l, env, H, r, he => by
    simp only [exOps] at he ⊢
    split at he
    · rename_i e1 H1 h1
      rw [exOp_mono h h1]; exact exOps_mono h he
    · cases he

theorem exOp0_mono {F F' : FT} (h : FLe F F') {H0 : Heap} {o : IOp} {env : List V} {H : Heap} {r : List V × Heap} (he : exOp0 F H0 o env H = some r) : exOp0 F' H0 o env H = some r := by
  unfold exOp0 at he ⊢
  split at he
  · rename_i hl
    rw [if_pos hl]
    split at he
    · rename_i hq
      rw [if_pos hq]
      simp only [Option.map_eq_some_iff] at he ⊢
      obtain ⟨x, h1, h2⟩ := he
      exact ⟨x, exOp_mono h h1, h2⟩
    · cases he
  · rename_i hl
    rw [if_neg hl]
    exact exOp_mono h he
theorem exOps0_mono {F F' : FT} (h : FLe F F') {H0 : Heap} : ∀ {ops : List IOp} {env : List V} {H : Heap} {r : List (List V × Heap)}, exOps0 F H0 ops env H = some r → exOps0 F' H0 ops env H = some r
  | [], _, _, _, he => he
  | o :: l, env, H, r, he => by
    simp only [exOps0] at he ⊢
    split at he
    · rename_i e1 H1 h1
      rw [exOp0_mono h h1]
      simp only
      split at he
      · rename_i tr h2; rw [exOps0_mono h h2]; exact he
      · cases he
    · cases he
theorem stayOp_mono {F F' : FT} (h : FLe F F') {H0 : Heap} {o : IOp} {env : List V} {H : Heap} (hs : stayOp F H0 o env H = true) : stayOp F' H0 o env H = true := by
  unfold stayOp at hs ⊢
  rw [Bool.or_eq_true] at hs ⊢
  rcases hs with hs | hs
  · exact .inl hs
  · right
    split at hs
    · rename_i a b ha hb
      rw [evq_mono h ha, evq_mono h hb]; exact hs
    · cases hs
theorem stays_mono {F F' : FT} (h : FLe F F') {H0 : Heap} {hs : List Heap} : ∀ {ls : List Nat} {ops : List IOp} {tr : List (List V × Heap)}, stays F H0 hs ls ops tr = true → stays F' H0 hs ls ops tr = true
  | [], [], _, _ => rfl
  | _ :: _, [], _, _ => rfl
  | [], _ :: _, [], _ => rfl
  | _ :: _, _ :: _, [], _ => rfl
  | [], o :: r, p :: tr, hst => by
    simp only [stays, Bool.and_eq_true, Bool.or_eq_true, List.all_eq_true] at hst ⊢
    refine ⟨?_, stays_mono h hst.2⟩
    rcases hst.1 with h1 | h1
    · exact .inl h1
    · exact .inr fun x hx => stayOp_mono h (h1 x hx)
  | n :: ls, o :: r, p :: tr, hst => by
    simp only [stays, Bool.and_eq_true, Bool.or_eq_true, List.all_eq_true] at hst ⊢
    refine ⟨?_, stays_mono h hst.2⟩
    rcases hst.1 with h1 | h1
    · exact .inl h1
    · exact .inr fun x hx => stayOp_mono h (h1 x hx)
theorem exec_mono {F F' : FT} (h : FLe F F') : ∀ (k : Nat) {k' : Nat}, k ≤ k' → ∀ {ir : Ir} {env : List V} {H : Heap} {r : X × List V × Heap}, exec F k ir env H = some r → exec F' k' ir env H = some r
  | 0, k', _, ir, env, H, r, he => by simp [exec] at he
  | k + 1, 0, hk, _, _, _, _, _ => by omega
  | k + 1, k' + 1, hk, ir, env, H, r, he => by
    have hk' : k ≤ k' := by omega
    cases ir with
    | skip => exact he
    | ret => exact he
    | exit id => exact he
    | seq a b =>
      simp only [exec] at he ⊢
      cases h1 : exec F k a env H with
      | none => rw [h1] at he; cases he
      | some q =>
        rw [h1] at he
        rw [exec_mono h k hk' h1]
        obtain ⟨x, e1, H1⟩ := q
        cases x with
        | nrm => exact exec_mono h k hk' he
        | ret => exact he
        | ext i => exact he
    | cond c a b =>
      simp only [exec] at he ⊢
      split at he
      · exact exec_mono h k hk' he
      · cases he
    | block id b =>
      simp only [exec] at he ⊢
      cases h1 : exec F k b env H with
      | none => rw [h1] at he; cases he
      | some q =>
        rw [h1] at he
        rw [exec_mono h k hk' h1]
        exact he
    | loop b =>
      simp only [exec] at he ⊢
      cases h1 : exec F k b env H with
      | none => rw [h1] at he; cases he
      | some q =>
        rw [h1] at he
        rw [exec_mono h k hk' h1]
        obtain ⟨x, e1, H1⟩ := q
        cases x with
        | nrm => exact exec_mono h k hk' he
        | ret => exact he
        | ext i => exact he
    | rgd ls ops =>
      simp only [exec] at he ⊢
      cases h1 : exOps0 F H ops env H with
      | none => rw [h1] at he; cases he
      | some q =>
        rw [h1] at he; rw [exOps0_mono h h1]
        simp only at he ⊢
        split at he
        · rename_i hs; rw [if_pos (stays_mono h hs)]; exact he
        · cases he
    | rgn ops =>
      simp only [exec] at he ⊢
      cases h1 : exOps F ops env H with
      | none => rw [h1] at he; cases he
      | some q => rw [h1] at he; rw [exOps_mono h h1]; exact he
    | clr ts b => simp only [exec] at he ⊢; exact exec_mono h k hk' he
    | scope b => simp only [exec] at he ⊢; exact exec_mono h k hk' he
    | fin ds b => simp only [exec] at he ⊢; exact exec_mono h k hk' he

theorem exF_mono {T : Nat → Option IFun} : ∀ (k : Nat) {k' : Nat}, k ≤ k' → FLe (exF T k) (exF T k')
  | 0, k', _ => fun f args H r h => by simp [exF] at h
  | k + 1, 0, hk => by omega
  | k + 1, k' + 1, hk => fun f args H r h => by
    have hk' : k ≤ k' := by omega
    simp only [exF] at h ⊢
    cases hT : T f with
    | none => rw [hT] at h; cases h
    | some g =>
      rw [hT] at h
      dsimp only at h ⊢
      cases he : exec (exF T k) k g.body (args ++ List.replicate (g.ntmps - args.length) .un) H with
      | none => rw [he] at h; cases h
      | some q =>
        rw [he] at h
        rw [exec_mono (exF_mono k hk') k hk' he]
        exact h

/-- a function's answer, whatever fuel it takes -/
def Fn (T : Nat → Option IFun) (f : Nat) (args : List V) (H : Heap) (Q : V → Heap → Prop) : Prop := ∃ k r H', exF T k f args H = some (r, H') ∧ Q r H'
/-- a pure call's answer -/
def PC (T : Nat → Option IFun) (H : Heap) (f : Nat) (args : List V) (v : V) : Prop := ∃ k, pcall (exF T k) H (.fn f []) args = some v
def Run (T : Nat → Option IFun) (ir : Ir) (env : List V) (H : Heap) (Q : X → List V → Heap → Prop) : Prop := ∃ k x e h, exec (exF T k) k ir env H = some (x, e, h) ∧ Q x e h
def RunO (T : Nat → Option IFun) (ops : List IOp) (env : List V) (H : Heap) (Q : List V → Heap → Prop) : Prop := ∃ k e h, exOps (exF T k) ops env H = some (e, h) ∧ Q e h
def optB {α : Type} (o : Option α) (f : α → Prop) : Prop := ∃ a, o = some a ∧ f a
theorem optB_some {α : Type} (a : α) (f : α → Prop) : optB (some a) f = f a := by simp [optB]

section
variable {T : Nat → Option IFun} {env : List V} {H : Heap}

theorem Run.mono {ir : Ir} {Q Q' : X → List V → Heap → Prop} (h : Run T ir env H Q) (hq : ∀ x e h, Q x e h → Q' x e h) : Run T ir env H Q' := by
  obtain ⟨k, x, e, H', h1, h2⟩ := h; exact ⟨k, x, e, H', h1, hq _ _ _ h2⟩

theorem Run.skip {Q : X → List V → Heap → Prop} (h : Q .nrm env H) : Run T .skip env H Q := ⟨1, _, _, _, rfl, h⟩
theorem Run.ret {Q : X → List V → Heap → Prop} (h : Q .ret env H) : Run T .ret env H Q := ⟨1, _, _, _, rfl, h⟩
theorem Run.exit {i : Nat} {Q : X → List V → Heap → Prop} (h : Q (.ext i) env H) : Run T (.exit i) env H Q := ⟨1, _, _, _, rfl, h⟩
/-- what follows, where nothing was left -/
def thn (T : Nat → Option IFun) (b : Ir) (Q : X → List V → Heap → Prop) : X → List V → Heap → Prop
  | .nrm, e, h => Run T b e h Q
  | x, e, h => Q x e h
theorem Run.seq {a b : Ir} {Q : X → List V → Heap → Prop} (h : Run T a env H (thn T b Q)) : Run T (.seq a b) env H Q := by
  obtain ⟨k, x, e, H', h1, h2⟩ := h
  cases x with
  | nrm =>
    obtain ⟨k2, x2, e2, H2, h3, h4⟩ := h2
    refine ⟨max k k2 + 1, x2, e2, H2, ?_, h4⟩
    have m1 := exec_mono (exF_mono k (show k ≤ max k k2 + 1 by omega)) k (show k ≤ max k k2 by omega) h1
    have m2 := exec_mono (exF_mono k2 (show k2 ≤ max k k2 + 1 by omega)) k2 (show k2 ≤ max k k2 by omega) h3
    simp only [exec, m1, m2]
  | ret => exact ⟨k + 1, .ret, e, H', by simp only [exec, exec_mono (exF_mono k (Nat.le_succ k)) k (Nat.le_refl k) h1], h2⟩
  | ext i => exact ⟨k + 1, .ext i, e, H', by simp only [exec, exec_mono (exF_mono k (Nat.le_succ k)) k (Nat.le_refl k) h1], h2⟩
theorem Run.cond {c : Opd} {a b : Ir} {t : Bool} {Q : X → List V → Heap → Prop} (hc : c.ev env = .bool t) (h : Run T (if t then a else b) env H Q) : Run T (.cond c a b) env H Q := by
  obtain ⟨k, x, e, H', h1, h2⟩ := h
  exact ⟨k + 1, x, e, H', by simp only [exec, hc, exec_mono (exF_mono k (Nat.le_succ k)) k (Nat.le_refl k) h1], h2⟩
theorem Run.clr {ts : List Nat} {b : Ir} {Q : X → List V → Heap → Prop} (h : Run T b (clrEnv ts env) H Q) : Run T (.clr ts b) env H Q := by
  obtain ⟨k, x, e, H', h1, h2⟩ := h
  exact ⟨k + 1, x, e, H', by simp only [exec, exec_mono (exF_mono k (Nat.le_succ k)) k (Nat.le_refl k) h1], h2⟩
theorem Run.scope {b : Ir} {Q : X → List V → Heap → Prop} (h : Run T b env H Q) : Run T (.scope b) env H Q := by
  obtain ⟨k, x, e, H', h1, h2⟩ := h
  exact ⟨k + 1, x, e, H', by simp only [exec, exec_mono (exF_mono k (Nat.le_succ k)) k (Nat.le_refl k) h1], h2⟩
def blk (i : Nat) (Q : X → List V → Heap → Prop) : X → List V → Heap → Prop
  | .ext j, e, h => if j = i then Q .nrm e h else Q (.ext j) e h
  | x, e, h => Q x e h
theorem Run.block {i : Nat} {b : Ir} {Q : X → List V → Heap → Prop} (h : Run T b env H (blk i Q)) : Run T (.block i b) env H Q := by
  obtain ⟨k, x, e, H', h1, h2⟩ := h
  have m := exec_mono (exF_mono k (Nat.le_succ k)) k (Nat.le_refl k) h1
  cases x with
  | nrm => exact ⟨k + 1, .nrm, e, H', by simp only [exec, m], h2⟩
  | ret => exact ⟨k + 1, .ret, e, H', by simp only [exec, m], h2⟩
  | ext j =>
    simp only [blk] at h2
    by_cases hj : j = i
    · rw [if_pos hj] at h2; exact ⟨k + 1, .nrm, e, H', by simp only [exec, m, hj, if_true], h2⟩
    · rw [if_neg hj] at h2; exact ⟨k + 1, .ext j, e, H', by simp only [exec, m, hj, if_false], h2⟩
theorem Run.rgn {ops : List IOp} {Q : X → List V → Heap → Prop} (h : RunO T ops env H (fun e h => Q .nrm e h)) : Run T (.rgn ops) env H Q := by
  obtain ⟨k, e, H', h1, h2⟩ := h
  exact ⟨k + 1, .nrm, e, H', by simp only [exec, exOps_mono (exF_mono k (Nat.le_succ k)) h1], h2⟩
/-- what a round must come to -/
def rnd (I : Nat → List V → Heap → Prop) (n : Nat) (Q : X → List V → Heap → Prop) : X → List V → Heap → Prop
  | .nrm, e, h => ∃ m, m < n ∧ I m e h
  | x, e, h => Q x e h
theorem Run.loop {b : Ir} {Q : X → List V → Heap → Prop} (I : Nat → List V → Heap → Prop) (n : Nat) (h0 : I n env H) (hr : ∀ n e h, I n e h → Run T b e h (rnd I n Q)) : Run T (.loop b) env H Q := by
  induction n using Nat.strongRecOn generalizing env H with
  | _ n ih =>
    obtain ⟨k, x, e, H', h1, h2⟩ := hr n env H h0
    cases x with
    | nrm =>
      obtain ⟨m, hm, hI⟩ := h2
      obtain ⟨k2, x2, e2, H2, h3, h4⟩ := ih m hm hI
      refine ⟨max k k2 + 1, x2, e2, H2, ?_, h4⟩
      have m1 := exec_mono (exF_mono k (show k ≤ max k k2 + 1 by omega)) k (show k ≤ max k k2 by omega) h1
      have m2 := exec_mono (exF_mono k2 (show k2 ≤ max k k2 + 1 by omega)) k2 (show k2 ≤ max k k2 by omega) h3
      simp only [exec, m1, m2]
    | ret => exact ⟨k + 1, .ret, e, H', by simp only [exec, exec_mono (exF_mono k (Nat.le_succ k)) k (Nat.le_refl k) h1], h2⟩
    | ext i => exact ⟨k + 1, .ext i, e, H', by simp only [exec, exec_mono (exF_mono k (Nat.le_succ k)) k (Nat.le_refl k) h1], h2⟩

/- ### rows of operations -/
def noF : FT := fun _ _ _ => none
theorem noF_le (F : FT) : FLe noF F := fun _ _ _ _ h => by cases h

theorem RunO.nil {Q : List V → Heap → Prop} (h : Q env H) : RunO T [] env H Q := ⟨0, _, _, rfl, h⟩
theorem RunO_nil {Q : List V → Heap → Prop} : RunO T [] env H Q = Q env H := by
  apply propext; constructor
  · rintro ⟨k, e, h, h1, h2⟩; cases h1; exact h2
  · exact RunO.nil

theorem RunO.op {o : IOp} {r : List IOp} {env1 : List V} {H1 : Heap} {Q : List V → Heap → Prop} (h : ∃ k, exOp (exF T k) o env H = some (env1, H1)) (hr : RunO T r env1 H1 Q) : RunO T (o :: r) env H Q := by
  obtain ⟨k, h⟩ := h
  obtain ⟨k2, e, H2, h1, h2⟩ := hr
  refine ⟨max k k2, e, H2, ?_, h2⟩
  simp only [exOps, exOp_mono (exF_mono k (show k ≤ max k k2 by omega)) h, exOps_mono (exF_mono k2 (show k2 ≤ max k k2 by omega)) h1]

/-- an operation that calls nothing -/
theorem RunO.n {d : Option Nat} {lo : Bool} {kd : Kind} {r : List IOp} {Q : List V → Heap → Prop} (h : optB (exK noF ⟨d, none, lo, kd⟩ env H) (fun p => RunO T r p.1 p.2 Q)) : RunO T (⟨d, none, lo, kd⟩ :: r) env H Q := by
  obtain ⟨⟨e1, H1⟩, h1, h2⟩ := h
  exact RunO.op ⟨0, exOp_mono (noF_le _) (o := ⟨d, none, lo, kd⟩) (by simpa [exOp] using h1)⟩ h2
theorem RunO.g {d : Option Nat} {t : Nat} {w : Bool} {lo : Bool} {kd : Kind} {r : List IOp} {Q : List V → Heap → Prop} (h : optB (exOp noF ⟨d, some (t, w), lo, kd⟩ env H) (fun p => RunO T r p.1 p.2 Q)) : RunO T (⟨d, some (t, w), lo, kd⟩ :: r) env H Q := by
  obtain ⟨⟨e1, H1⟩, h1, h2⟩ := h
  exact RunO.op ⟨0, exOp_mono (noF_le _) h1⟩ h2
/-- a pure call -/
theorem RunO.c {d : Nat} {f : Nat} {args : List Opd} {r : List IOp} {v : V} {lo : Bool} {Q : List V → Heap → Prop} (hc : PC T (if lo then [] else H) f (args.map (·.ev env)) v) (h : RunO T r (env.set d v) H Q) :
    RunO T (⟨some d, none, lo, .call false (.c (.fn f [])) args⟩ :: r) env H Q := by
  obtain ⟨k, hk⟩ := hc
  refine RunO.op ⟨k, ?_⟩ h
  have e0 : (Opd.c (.fn f [])).ev env = .fn f [] := rfl
  simp only [exOp, exK, Kind.quiet, evq, e0, if_true]
  rw [hk]; rfl
/-- a pure call under a guard that holds -/
theorem RunO.cg {d t : Nat} {w : Bool} {f : Nat} {args : List Opd} {r : List IOp} {v : V} {lo : Bool} {Q : List V → Heap → Prop} (hg : env.getD t .un = .bool w) (hc : PC T (if lo then [] else H) f (args.map (·.ev env)) v) (h : RunO T r (env.set d v) H Q) :
    RunO T (⟨some d, some (t, w), lo, .call false (.c (.fn f [])) args⟩ :: r) env H Q := by
  obtain ⟨k, hk⟩ := hc
  refine RunO.op ⟨k, ?_⟩ h
  have e0 : (Opd.c (.fn f [])).ev env = .fn f [] := rfl
  simp only [exOp, hg, exK, Kind.quiet, evq, e0, if_true]
  rw [hk]; rfl
theorem RunO.cs {d t : Nat} {w : Bool} {b : Bool} {kd : Kind} {r : List IOp} {lo : Bool} {Q : List V → Heap → Prop} (hg : env.getD t .un = .bool b) (hb : b ≠ w) (h : RunO T r (env.set d .sk) H Q) :
    RunO T (⟨some d, some (t, w), lo, kd⟩ :: r) env H Q := by
  refine RunO.op ⟨0, ?_⟩ h
  simp only [exOp, hg, hb, if_false]; rfl
theorem RunO.csk {d t : Nat} {w : Bool} {kd : Kind} {r : List IOp} {lo : Bool} {Q : List V → Heap → Prop} (hg : env.getD t .un = .sk) (h : RunO T r (env.set d .sk) H Q) :
    RunO T (⟨some d, some (t, w), lo, kd⟩ :: r) env H Q := by
  refine RunO.op ⟨0, ?_⟩ h
  simp only [exOp, hg]; rfl
/-- a call in this heap -/
theorem RunO.h {d : Option Nat} {f : Opd} {g : Nat} {caps : List V} {args : List Opd} {r : List IOp} {lo : Bool} {Q : List V → Heap → Prop} (hf : f.ev env = .fn g caps)
    (hc : Fn T g (args.map (·.ev env) ++ caps) H (fun v H' => RunO T r (put env d v) H' Q)) :
    RunO T (⟨d, none, lo, .call true f args⟩ :: r) env H Q := by
  obtain ⟨k, v, H', hk, h⟩ := hc
  refine RunO.op ⟨k, ?_⟩ h
  simp only [exOp, exK, Kind.quiet, Bool.false_eq_true, if_false, evw, hf, hcall, hk]; rfl

/-- a method value's call in this heap -/
theorem RunO.hb {d : Option Nat} {f : Opd} {g : Nat} {first : List V} {args : List Opd} {r : List IOp} {lo : Bool} {Q : List V → Heap → Prop} (hf : f.ev env = .bm g first)
    (hc : Fn T g (first ++ args.map (·.ev env)) H (fun v H' => RunO T r (put env d v) H' Q)) :
    RunO T (⟨d, none, lo, .call true f args⟩ :: r) env H Q := by
  obtain ⟨k, v, H', hk, h⟩ := hc
  refine RunO.op ⟨k, ?_⟩ h
  simp only [exOp, exK, Kind.quiet, Bool.false_eq_true, if_false, evw, hf, hcall, hk]; rfl

/- ### functions -/
/-- what a function's end must come to -/
def fin (res : List Nat) (Q : V → Heap → Prop) : X → List V → Heap → Prop
  | .nrm, e, h => Q (resV res e) h
  | .ret, e, h => Q (resV res e) h
  | .ext _, _, _ => False
theorem Fn.enter {f : Nat} {g : IFun} {args : List V} {Q : V → Heap → Prop} (hT : T f = some g) (h : Run T g.body (args ++ List.replicate (g.ntmps - args.length) .un) H (fin g.res Q)) (hb : g.body.cells = none := by rfl) : Fn T f args H Q := by
  obtain ⟨k, x, e, H', h1, h2⟩ := h
  cases x with
  | nrm => exact ⟨k + 1, _, _, by simp only [exF, hT, h1, hb, resW, Option.map_some], h2⟩
  | ret => exact ⟨k + 1, _, _, by simp only [exF, hT, h1, hb, resW, Option.map_some], h2⟩
  | ext i => exact h2.elim
/-- as 'fin', where results lie in cells -/
def finC (ds : List (Option Sh)) (res : List Nat) (Q : V → Heap → Prop) : X → List V → Heap → Prop
  | .nrm, e, h => ∃ vs, omap (ldR e h) (res.zip ds) = some vs ∧ Q (tupV vs) h
  | .ret, e, h => ∃ vs, omap (ldR e h) (res.zip ds) = some vs ∧ Q (tupV vs) h
  | .ext _, _, _ => False
theorem Fn.enterC {f : Nat} {g : IFun} {args : List V} {Q : V → Heap → Prop} {ds : List (Option Sh)} {b : Ir} (hT : T f = some g) (hb : g.body = .fin ds b) (h : Run T b (args ++ List.replicate (g.ntmps - args.length) .un) H (finC ds g.res Q)) : Fn T f args H Q := by
  obtain ⟨k, x, e, H', h1, h2⟩ := h
  obtain ⟨m, hm⟩ : ∃ m, m = k + 1 := ⟨_, rfl⟩
  have h1' : exec (exF T m) m g.body (args ++ List.replicate (g.ntmps - args.length) .un) H = some (x, e, H') := by
    rw [hb, hm]; simp only [exec]; exact exec_mono (exF_mono k (Nat.le_succ k)) k (Nat.le_refl k) h1
  have hr : ∀ env h, resW g.body.cells g.res env h = (omap (ldR env h) (g.res.zip ds)).map tupV := by intro env h; rw [hb]; rfl
  cases x with
  | nrm => obtain ⟨vs, h3, h4⟩ := h2; exact ⟨m + 1, _, _, by simp only [exF, hT, h1', hr, h3, Option.map_some], h4⟩
  | ret => obtain ⟨vs, h3, h4⟩ := h2; exact ⟨m + 1, _, _, by simp only [exF, hT, h1', hr, h3, Option.map_some], h4⟩
  | ext i => exact h2.elim
theorem Fn.mono {f : Nat} {args : List V} {Q Q' : V → Heap → Prop} (h : Fn T f args H Q) (hq : ∀ r h, Q r h → Q' r h) : Fn T f args H Q' := by
  obtain ⟨k, r, H', h1, h2⟩ := h; exact ⟨k, r, H', h1, hq _ _ h2⟩
/-- a pure call of values that are free of references -/
theorem PC.of {f : Nat} {args : List V} {v : V} (hfree : args.all (V.free deepN) = true) (h : Fn T f args [] (fun r Hc => deep false Hc deepN r = some v)) (hd : omap (deep false H deepN) args = some args := by rfl) : PC T H f args v := by
  obtain ⟨k, r, Hc, h1, h2⟩ := h
  refine ⟨k, ?_⟩
  simp only [pcall, hd, Option.bind_some, h1, hfree, Bool.not_true]; exact h2
end

/-- a row that calls nothing, at once -/
theorem RunO.all {T : Nat → Option IFun} {ops : List IOp} {env : List V} {H : Heap} {Q : List V → Heap → Prop} (h : optB (exOps noF ops env H) (fun p => Q p.1 p.2)) : RunO T ops env H Q := by
  obtain ⟨⟨e, h'⟩, h1, h2⟩ := h
  exact ⟨0, e, h', exOps_mono (noF_le _) h1, h2⟩
theorem optB_none {α : Type} (f : α → Prop) : optB none f = False := by simp [optB]
theorem optB_ite {α : Type} (c : Prop) [Decidable c] (x y : Option α) (f : α → Prop) : optB (if c then x else y) f = (if c then optB x f else optB y f) := by split <;> rfl
theorem exOps_nil (F : FT) (env : List V) (H : Heap) : exOps F [] env H = some (env, H) := rfl
def bindO (o : Option (List V × Heap)) (f : List V → Heap → Option (List V × Heap)) : Option (List V × Heap) := match o with | some (e, h) => f e h | none => none
theorem bindO_some (e : List V) (h : Heap) (f : List V → Heap → Option (List V × Heap)) : bindO (some (e, h)) f = f e h := rfl
theorem exOps_cons (F : FT) (o : IOp) (r : List IOp) (env : List V) (H : Heap) : exOps F (o :: r) env H = bindO (exOp F o env H) (exOps F r) := rfl
section
variable (F : FT) (env : List V) (H : Heap) (d : Option Nat) (lo : Bool)
def mapQ (o : Option V) (env : List V) (d : Option Nat) (H : Heap) : Option (List V × Heap) := o.map fun v => (put env d v, H)
def mapW (o : Option (V × Heap)) (env : List V) (d : Option Nat) : Option (List V × Heap) := o.map fun r => (put env d r.1, r.2)
theorem mapQ_some (v : V) : mapQ (some v) env d H = some (put env d v, H) := rfl
theorem mapW_some (v : V) : mapW (some (v, H)) env d = some (put env d v, H) := rfl
theorem x_mov (x : Opd) : exOp F ⟨d, none, false, .mov x⟩ env H = mapQ (some (x.ev env)) env d H := rfl
theorem x_pick (c a b : Opd) : exOp F ⟨d, none, false, .pick c a b⟩ env H = mapQ (match c.ev env with | .bool t => some (if t then a.ev env else b.ev env) | _ => none) env d H := rfl
theorem x_bin (cl : Cls) (op : BinOp) (x y : Opd) : exOp F ⟨d, none, false, .bin cl op x y⟩ env H = mapQ (binV cl op (x.ev env) (y.ev env)) env d H := rfl
theorem x_un (op : UnOp) (x : Opd) : exOp F ⟨d, none, false, .un op x⟩ env H = mapQ (unV op (x.ev env)) env d H := rfl
theorem x_cvt (k : IntKind) (x : Opd) : exOp F ⟨d, none, false, .cvt k x⟩ env H = mapQ (match x.ev env with | .int _ n => some (.int k (k.wrap n)) | _ => none) env d H := rfl
theorem x_ld (x : Opd) (n : Sh) : exOp F ⟨d, none, false, .ld x n⟩ env H = mapQ (ldV H (x.ev env) n) env d H := rfl
theorem x_b2s (x : Opd) : exOp F ⟨d, none, false, .b2s x⟩ env H = mapQ (b2sV H (x.ev env)) env d H := rfl
theorem x_idxa (x i : Opd) (z : Nat) (ag : Bool) : exOp F ⟨d, none, false, .idxa x i z ag⟩ env H = mapQ (idxaV (x.ev env) (i.ev env) z ag) env d H := rfl
theorem x_idxs (x i : Opd) : exOp F ⟨d, none, false, .idxs x i⟩ env H = mapQ (idxsV (x.ev env) (i.ev env)) env d H := rfl
theorem x_mkm (f : Nat) (first : List Opd) : exOp F ⟨d, none, false, .mkm f first⟩ env H = mapQ (some (.bm f (first.map (·.ev env)))) env d H := rfl
theorem x_ixb (x c : Opd) : exOp F ⟨d, none, false, .ixb x c⟩ env H = mapQ (ixbV (x.ev env) (c.ev env)) env d H := rfl
theorem x_idxg (x i : Opd) (l z : Nat) (n : Sh) : exOp F ⟨d, none, false, .idxg x i l z n⟩ env H = mapQ (idxgV (x.ev env) (i.ev env) l z n) env d H := rfl
theorem x_fld (x : Opd) (off : Nat) (n : Sh) : exOp F ⟨d, none, false, .fld x off n⟩ env H = mapQ (fldV (x.ev env) off n) env d H := rfl
theorem x_flda (x : Opd) (off : Nat) (n : Sh) : exOp F ⟨d, none, false, .flda x off n⟩ env H = mapQ (fldaV (x.ev env) off n) env d H := rfl
theorem x_boxf (x : Opd) : exOp F ⟨d, none, false, .box x true⟩ env H = mapQ (if boxOk (x.ev env) && V.free deepN (x.ev env) then some (.fp (x.ev env)) else none) env d H := rfl
theorem x_boxr (x : Opd) : exOp F ⟨d, none, false, .boxr x⟩ env H = mapQ (if boxOk (x.ev env) then some (.bx (x.ev env)) else none) env d H := rfl
theorem x_bld (zero : List V) (parts : List (Nat × Nat × Opd)) : exOp F ⟨d, none, false, .bld zero parts⟩ env H = mapQ (bldV zero (parts.map fun p => (p.1, p.2.1, p.2.2.ev env))) env d H := rfl
theorem x_bslf (z : Nat) (ag : Bool) (n : Nat) (zero : V) (parts : List (Nat × Opd)) : exOp F ⟨d, none, false, .bsl z ag n zero parts true⟩ env H = mapQ ((bslV [] z ag n zero (parts.map fun p => (p.1, p.2.ev env)) true).map (·.1)) env d H := rfl
theorem x_slc (x : Opd) (l h : Option Opd) (z : Nat) : exOp F ⟨d, none, false, .slc x l h z⟩ env H = mapQ (slcV (x.ev env) (l.map (·.ev env)) (h.map (·.ev env)) z) env d H := rfl
theorem x_len (s : Bool) (x : Opd) : exOp F ⟨d, none, false, .len s x⟩ env H = mapQ (lenV s (x.ev env)) env d H := rfl
theorem x_ext (x : Opd) (i : Nat) : exOp F ⟨d, none, false, .ext x i⟩ env H = mapQ (extV (x.ev env) i) env d H := rfl
theorem x_nchk (x : Opd) : exOp F ⟨d, none, false, .nchk x⟩ env H = mapQ (nchkV (x.ev env)) env d H := rfl
theorem x_mkf (f : Nat) (caps : List Opd) : exOp F ⟨d, none, false, .mkf f caps⟩ env H = mapQ (some (.fn f (caps.map (·.ev env)))) env d H := rfl
theorem x_mki (t : Nat) (x : Opd) : exOp F ⟨d, none, false, .mki t x⟩ env H = mapQ (some (.ifc t (x.ev env))) env d H := rfl
theorem x_fbin (op : BinOp) (x y : Opd) : exOp F ⟨d, none, false, .fbin op x y⟩ env H = mapQ (fbinV op (x.ev env) (y.ev env)) env d H := rfl
theorem x_fneg (x : Opd) : exOp F ⟨d, none, false, .fneg x⟩ env H = mapQ (fnegV (x.ev env)) env d H := rfl
theorem x_i2f (x : Opd) : exOp F ⟨d, none, false, .i2f x⟩ env H = mapQ (i2fV (x.ev env)) env d H := rfl
theorem x_f2i (k : IntKind) (x : Opd) : exOp F ⟨d, none, false, .f2i k x⟩ env H = mapQ (f2iV k (x.ev env)) env d H := rfl
theorem x_xc (e : XF) (x : Opd) : exOp F ⟨d, none, false, .xc e x⟩ env H = mapQ (xcV e (x.ev env)) env d H := rfl
theorem x_eqs (ne : Bool) (sig : List Leaf) (x y : Opd) : exOp F ⟨d, none, false, .eqs ne sig x y⟩ env H = mapQ (eqsV ne sig (x.ev env) (y.ev env)) env d H := rfl
theorem xl_ld (x : Opd) (n : Sh) : exOp F ⟨d, none, true, .ld x n⟩ env H = mapQ (ldV [] (x.ev env) n) env d H := rfl
theorem xl_b2s (x : Opd) : exOp F ⟨d, none, true, .b2s x⟩ env H = mapQ (b2sV [] (x.ev env)) env d H := rfl
theorem x_st (a x : Opd) (n : Sh) : exOp F ⟨d, none, false, .st a x n⟩ env H = mapW ((stV H (a.ev env) (x.ev env) n).map fun H' => (V.sk, H')) env d := rfl
theorem x_boxh (x : Opd) : exOp F ⟨d, none, false, .box x false⟩ env H = mapW (if boxOk (x.ev env) then some (V.ptr H.length 0 0, H ++ [(0, (x.ev env).cells)]) else none) env d := rfl
theorem x_alloc (zc : List V) : exOp F ⟨d, none, false, .alloc zc⟩ env H = mapW (some (V.ptr H.length 0 0, H ++ [(0, zc)])) env d := rfl
theorem x_bslh (z : Nat) (ag : Bool) (n : Nat) (zero : V) (parts : List (Nat × Opd)) : exOp F ⟨d, none, false, .bsl z ag n zero parts false⟩ env H = mapW (bslV H z ag n zero (parts.map fun p => (p.1, p.2.ev env)) false) env d := rfl
theorem x_mks (z : Nat) (ag : Bool) (zc : List V) (b : Nat) (l c : Opd) : exOp F ⟨d, none, false, .mks z ag zc b l c⟩ env H = mapW (mksV H z ag zc b (l.ev env) (c.ev env)) env d := rfl
theorem x_app (s x : Opd) (z : Nat) (ag : Bool) (b : Nat) : exOp F ⟨d, none, false, .app s x z ag b⟩ env H = mapW (appV H (s.ev env) (x.ev env) z ag b) env d := rfl
theorem exOp_gt (t : Nat) (w : Bool) (k : Kind) (h : env.getD t .un = .bool w) : exOp F ⟨d, some (t, w), lo, k⟩ env H = exOp F ⟨d, none, lo, k⟩ env H := by
  simp only [exOp, h, if_true, exK]
theorem exOp_gf (t : Nat) (k : Kind) (h : env.getD t .un = .bool false) : exOp F ⟨d, some (t, true), lo, k⟩ env H = some (put env d .sk, H) := by
  simp only [exOp, h]; rfl
theorem exOp_gf2 (t : Nat) (k : Kind) (h : env.getD t .un = .bool true) : exOp F ⟨d, some (t, false), lo, k⟩ env H = some (put env d .sk, H) := by
  simp only [exOp, h]; rfl
theorem exOp_gs (t : Nat) (w : Bool) (k : Kind) (h : env.getD t .un = .sk) : exOp F ⟨d, some (t, w), lo, k⟩ env H = some (put env d .sk, H) := by
  simp only [exOp, h]
end
theorem put_some (env : List V) (d : Nat) (v : V) : put env (some d) v = env.set d v := rfl
theorem put_none (env : List V) (v : V) : put env none v = env := rfl
theorem ev_t (env : List V) (n : Nat) : (Opd.t n).ev env = env.getD n .un := rfl
theorem ev_c (env : List V) (v : V) : (Opd.c v).ev env = v := rfl

theorem Run.ite {T : Nat → Option IFun} {env : List V} {H : Heap} {c : Opd} {a b : Ir} {t : Bool} {Q : X → List V → Heap → Prop} (hc : c.ev env = .bool t) (h1 : t = true → Run T a env H Q) (h2 : t = false → Run T b env H Q) :
    Run T (.cond c a b) env H Q := by
  cases t with
  | true => exact Run.cond hc (h1 rfl)
  | false => exact Run.cond hc (h2 rfl)
theorem Run.seqr {T : Nat → Option IFun} {env : List V} {H : Heap} {r : List IOp} {b : Ir} {Q : X → List V → Heap → Prop} (h : optB (exOps noF r env H) (fun p => Run T b p.1 p.2 Q)) : Run T (.seq (.rgn r) b) env H Q :=
  Run.seq (Run.rgn (RunO.all h))
theorem idxaV_fz {xs : List V} {k : IntKind} {n : Int} {z : Nat} {ag : Bool} {e : V} (h0 : 0 ≤ n) (h : xs[n.toNat]? = some e) (hok : okEl z ag e = true) : idxaV (.fz xs) (.int k n) z ag = some (.fp e) := by
  simp only [idxaV, h0, if_true, h, Option.bind_some, hok]
def vi (n : Int) : V := .int .i64 n
def vis (l : List Int) : V := .fz (l.map vi)
theorem idx_vis {l : List Int} {n : Int} (h0 : 0 ≤ n) (h : n < l.length) : idxaV (vis l) (.int .i64 n) 1 false = some (.fp (.int .i64 (l.getD n.toNat 0))) := by
  refine idxaV_fz h0 ?_ rfl
  have : n.toNat < l.length := by omega
  simp [this, vi]
theorem len_vis (l : List Int) : lenV false (vis l) = some (.int .i64 (l.length : Int)) := by simp [vis, lenV]
theorem wrap64_in {x : Int} (h0 : -9223372036854775808 ≤ x) (h1 : x ≤ 9223372036854775807) : IntKind.i64.wrap x = x := by
  rw [IntKind.wrap_i64]; omega

theorem lenV_fz (xs : List V) : lenV false (.fz xs) = some (.int .i64 (xs.length : Int)) := rfl
theorem lenV_sl (b g off len z : Nat) (ag : Bool) : lenV false (.sl b g off len z ag) = some (.int .i64 (len : Int)) := rfl
theorem lenV_nils : lenV false .nils = some (.int .i64 0) := rfl
theorem lenV_str (s : ByteArray) : lenV true (.str s) = some (.int .i64 (s.size : Int)) := rfl
theorem ld_fp_int (H : Heap) (k : IntKind) (n : Int) : ldV H (.fp (.int k n)) none = some (.int k n) := rfl
theorem ld_fp_bool (H : Heap) (b : Bool) : ldV H (.fp (.bool b)) none = some (.bool b) := rfl
theorem ld_fp_str (H : Heap) (s : ByteArray) : ldV H (.fp (.str s)) none = some (.str s) := rfl
theorem ld_fp_fz (H : Heap) (l : List V) : ldV H (.fp (.fz l)) none = some (.fz l) := rfl
theorem ld_fp_vis (H : Heap) (l : List Int) : ldV H (.fp (vis l)) none = some (vis l) := rfl
theorem ld_fp_sl (H : Heap) (b g off len z : Nat) (ag : Bool) : ldV H (.fp (.sl b g off len z ag)) none = some (.sl b g off len z ag) := rfl
theorem ld_fp_nils (H : Heap)  : ldV H (.fp (.nils)) none = some (.nils) := rfl
theorem ld_fp_ptr (H : Heap) (b g off : Nat) : ldV H (.fp (.ptr b g off)) none = some (.ptr b g off) := rfl
theorem ld_fp_fpp (H : Heap) (x : V) : ldV H (.fp (.fp x)) none = some (.fp x) := rfl
theorem ld_fp_nilp (H : Heap)  : ldV H (.fp (.nilp)) none = some (.nilp) := rfl
theorem ld_bx_int (H : Heap) (k : IntKind) (n : Int) : ldV H (.bx (.int k n)) none = some (.int k n) := rfl
theorem ld_bx_bool (H : Heap) (b : Bool) : ldV H (.bx (.bool b)) none = some (.bool b) := rfl
theorem ld_bx_str (H : Heap) (s : ByteArray) : ldV H (.bx (.str s)) none = some (.str s) := rfl
theorem ld_bx_fz (H : Heap) (l : List V) : ldV H (.bx (.fz l)) none = some (.fz l) := rfl
theorem ld_bx_vis (H : Heap) (l : List Int) : ldV H (.bx (vis l)) none = some (vis l) := rfl
theorem ld_bx_sl (H : Heap) (b g off len z : Nat) (ag : Bool) : ldV H (.bx (.sl b g off len z ag)) none = some (.sl b g off len z ag) := rfl
theorem ld_bx_nils (H : Heap)  : ldV H (.bx (.nils)) none = some (.nils) := rfl
theorem ld_bx_ptr (H : Heap) (b g off : Nat) : ldV H (.bx (.ptr b g off)) none = some (.ptr b g off) := rfl
theorem ld_bx_fpp (H : Heap) (x : V) : ldV H (.bx (.fp x)) none = some (.fp x) := rfl
theorem ld_bx_nilp (H : Heap)  : ldV H (.bx (.nilp)) none = some (.nilp) := rfl
theorem ld_fp_ag (H : Heap) (cs : List V) (m : Nat) (h : (cs.length == m && cs.all V.isCell) = true) : ldV H (.fp (.ag cs)) (some m) = some (.ag cs) := by simp only [ldV, fitsSh, h, if_true]

/-- what a round must come to, where a loop's head forgets -/
def rndc (ts : List Nat) (I : Nat → List V → Heap → Prop) (n : Nat) (Q : X → List V → Heap → Prop) : X → List V → Heap → Prop
  | .nrm, e, h => ∃ m, m < n ∧ I m (clrEnv ts e) h
  | x, e, h => Q x e h
theorem Run.loopc {T : Nat → Option IFun} {env : List V} {H : Heap} {ts : List Nat} {b : Ir} {Q : X → List V → Heap → Prop} (I : Nat → List V → Heap → Prop) (n : Nat) (h0 : I n (clrEnv ts env) H)
    (hr : ∀ n e h, I n e h → Run T b e h (rndc ts I n Q)) : Run T (.loop (.clr ts b)) env H Q := by
  refine Run.loop (fun n e h => I n (clrEnv ts e) h) n h0 (fun n e h hI => Run.clr ((hr n _ h hI).mono ?_))
  intro x e' h' hx
  cases x <;> exact hx

theorem exOps_app {F : FT} : ∀ {a b : List IOp} {env : List V} {H : Heap}, exOps F (a ++ b) env H = bindO (exOps F a env H) (exOps F b)
  | [], b, env, H => rfl
  | o :: a, b, env, H => by
    rw [List.cons_append, exOps_cons, exOps_cons]
    cases h : exOp F o env H with
    | none => rfl
    | some p => simp only [bindO]; exact exOps_app
theorem RunO.app {T : Nat → Option IFun} {a b : List IOp} {env : List V} {H : Heap} {Q : List V → Heap → Prop} (h : RunO T a env H (fun e h => RunO T b e h Q)) : RunO T (a ++ b) env H Q := by
  obtain ⟨k, e, h', h1, k2, e2, h2, h3, h4⟩ := h
  refine ⟨max k k2, e2, h2, ?_, h4⟩
  rw [exOps_app, exOps_mono (exF_mono k (show k ≤ max k k2 by omega)) h1]
  exact exOps_mono (exF_mono k2 (show k2 ≤ max k k2 by omega)) h3
theorem RunO.pre {T : Nat → Option IFun} (n : Nat) {ops : List IOp} {env : List V} {H : Heap} {Q : List V → Heap → Prop} (h : optB (exOps noF (ops.take n) env H) (fun p => RunO T (ops.drop n) p.1 p.2 Q)) : RunO T ops env H Q := by
  rw [← List.take_append_drop n ops]
  exact RunO.app (RunO.all h)
/-- a guarded call in this heap -/
theorem RunO.hg {T : Nat → Option IFun} {env : List V} {H : Heap} {d : Option Nat} {t : Nat} {w : Bool} {f : Opd} {g : Nat} {caps : List V} {args : List Opd} {r : List IOp} {lo : Bool} {Q : List V → Heap → Prop} (hg : env.getD t .un = .bool w) (hf : f.ev env = .fn g caps)
    (hc : Fn T g (args.map (·.ev env) ++ caps) H (fun v H' => RunO T r (put env d v) H' Q)) :
    RunO T (⟨d, some (t, w), lo, .call true f args⟩ :: r) env H Q := by
  obtain ⟨k, v, H', hk, h⟩ := hc
  refine RunO.op ⟨k, ?_⟩ h
  simp only [exOp, hg, if_true, exK, Kind.quiet, Bool.false_eq_true, if_false, evw, hf, hcall, hk]; rfl
theorem getD_lt {α : Type} {l : List α} {i : Nat} {d : α} (h : i < l.length) : l.getD i d = l[i] := by simp [List.getD, h]
end Go.Eng
