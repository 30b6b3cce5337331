/- Functions of this seat, run on unknown values by the rules of the small machine (no condition beyond those stated). -/
import Derived.Test.YtfkakbipedafiaaDoorGshTrUp
import Derived.Test.YtfkakbipedafiaaDoorGshF
namespace Go.Eng.Gra
open Go Go.Eng
set_option linter.unusedSectionVars false
set_option linter.unusedVariables false
set_option linter.unusedSimpArgs false
set_option maxRecDepth 20000
abbrev obw (om : Option (Nat × Nat)) (met : List Bool) (oo : Option (Nat × Nat)) (out : List Int) (L : List Ob) : List Ob :=
  (om,met.flatMap EB.c ++ []) :: (oo,out.flatMap (EI .i64).c ++ []) :: L
def RecW (x0 : T_Graph) (rec : Int → WS → Option WS) : Prop :=
  ∀ (to : Int) (s s' : WS),rec to s = some s' → s'.1.length = s.1.length ∧ ∀ (H : Heap) (om oo : Option (Nat × Nat)) (L : List Ob),HP H (obw om s.1 oo s.2 L) →
    Fn T 39 [E_Graph.e x0,.int .i64 to,slv 1 false s.1.length om,slv 1 false s.2.length oo] H (fun v h => ∃ oo',v = slv 1 false s'.2.length oo' ∧ HP h (obw om s'.1 oo' s'.2 L))
def e39 (x0 : T_Graph) (bt : Nat) (i : Int) (nm : Nat) (om : Option (Nat × Nat)) (no : Nat) (oo : Option (Nat × Nat)) (k : Nat) : List V := (mkE [(1,.int .i64 i),(0,slv 1 false nm om),(0,slv 1 false no oo),(0,.fp (E_Graph.e x0)),(4,.ptr bt 0 0),(0,.int .i64 (k : Int))] 54)
def e39g (x0 : T_Graph) (bt : Nat) (i : Int) (nm : Nat) (om : Option (Nat × Nat)) (no : Nat) (oo : Option (Nat × Nat)) (k : Nat) (g : Bool) : List V := (mkE [(1,.int .i64 i),(0,slv 1 false nm om),(0,slv 1 false no oo),(0,.fp (E_Graph.e x0)),(4,.ptr bt 0 0),(0,.int .i64 (k : Int)),(24,.bool g)] 29)
def e39h (x0 : T_Graph) (bt : Nat) (i : Int) (nm : Nat) (om : Option (Nat × Nat)) (no : Nat) (oo : Option (Nat × Nat)) (k : Nat) (g : Bool) : List V := (mkE [(1,.int .i64 i),(0,slv 1 false nm om),(0,slv 1 false no oo),(0,.fp (E_Graph.e x0)),(4,.ptr bt 0 0),(0,.int .i64 (k : Int)),(41,.bool g)] 12)
abbrev cl39 : List Nat := [24,25,26,27,28,29,30,31,32,33,34,35,36,37,38,39,40,41,42,43,44,45,46,47,48,49,50,51,52,53,54,55,56,57,58,59,60]
section
variable {x0 : T_Graph} {bt : Nat} {i : Int} {nm no : Nat} {om oo : Option (Nat × Nat)} {H : Heap} {L : List Ob} {t : T_Term}
theorem goes39 {L' : List Ob} (hp : HP H L') (j : Nat) (hj : L'[j]? = some (tbo bt t)) (k : Nat) (hk : k = 0 ∨ k = 1) (Q : X → List V → Heap → Prop)
    (h : Run T i39n12 (e39g x0 bt i nm om no oo k (goV t k)) H Q) : Run T i39n13 (e39 x0 bt i nm om no oo k) H Q := by
  have hld := hp.ld j hj (off := 0) (n := none) (v := .int .u8 t.fKind) rfl;refine Rn.g ?_;refine Ro.t 1 ?_;refine Ro.p hld ?_;cases h1 : (t.fKind == 1)
  · refine Ro.p (bool_of h1) ?_;have hg : goV t k = (t.fKind == 2) := by unfold goV; rw [h1]; simp
    rw [hg] at h;refine Ro.t 6 ?_;refine Ro.p hld ?_;refine Ro.p (u := .bool (t.fKind == 2)) (v := some (.bool (t.fKind == 2))) rfl ?_;refine Ro.t 1 ?_;exact Ro.d (e39g x0 bt i nm om no oo k (t.fKind == 2)) h
  · refine Ro.p (bool_of h1) ?_;rcases hk with rfl | rfl
    · have hg : goV t 0 = true := by unfold goV; rw [h1]; simp
      rw [hg] at h;refine Ro.t 9 ?_;exact Ro.d (e39g x0 bt i nm om no oo 0 true) h
    · have hg : goV t 1 = (t.fKind == 2) := by unfold goV; simp
      rw [hg] at h;refine Ro.t 6 ?_;refine Ro.p hld ?_;refine Ro.p (u := .bool (t.fKind == 2)) (v := some (.bool (t.fKind == 2))) rfl ?_;refine Ro.t 1 ?_;exact Ro.d (e39g x0 bt i nm om no oo 1 (t.fKind == 2)) h
theorem round39 {s s' : WS} (rec : Int → WS → Option WS) (hrec : RecW x0 rec) (hp : HP H (obw om s.1 oo s.2 (tbo bt t :: L))) (k : Nat) (hk : k = 0 ∨ k = 1) (h : stepW rec t k (getTo t k) s = some s') :
    Run T i39n13 (e39 x0 bt i s.1.length om s.2.length oo k) H (fun x e h => x = .nrm ∧ s'.1.length = s.1.length ∧ ∃ oo',clrEnv cl39 e = e39 x0 bt i s.1.length om s'.2.length oo' k ∧ HP h (obw om s'.1 oo' s'.2 (tbo bt t :: L))) := by
  unfold stepW at h;refine goes39 hp 2 rfl k hk _ ?_;cases hg : goV t k
  · rw [hg] at h;simp only [Bool.false_and,Bool.false_eq_true,if_false] at h;cases h;refine Run.condF (by kernel_rfl) ?_;exact Run.skip ⟨rfl,rfl,oo,by kernel_rfl,hp⟩
  rw [hg] at h;have hto : ldV H (.ptr bt 0 (2 + k)) none = some (.int .i64 (getTo t k)) := by
    rcases hk with rfl | rfl
    · exact hp.ld 2 (off := 2) (n := none) (v := .int .i64 (getTo t 0)) rfl rfl
    · exact hp.ld 2 (off := 3) (n := none) (v := .int .i64 (getTo t 1)) rfl rfl
  obtain ⟨to,he⟩ : ∃ to,getTo t k = to := ⟨_,rfl⟩;rw [he] at h hto;refine Run.condT (by kernel_rfl) ?_;have hpos : idxpV (.ptr bt 0 2) (.int .i64 (k : Int)) 2 1 none = some (.ptr bt 0 (2 + k)) := by rcases hk with rfl | rfl <;> kernel_rfl
  refine Rn.g ?_;refine Ro.t 2 ?_;refine Ro.p hpos ?_;refine Ro.p hto ?_;refine Ro.t 1 ?_;refine Ro.p (own_len EB hp 0 rfl) ?_;cases hb : decide (0 ≤ to ∧ to < (s.1.length : Int))
  · rw [hb] at h;simp only [Bool.false_and,Bool.and_false,Bool.false_eq_true,if_false] at h;cases h;refine RunO.c1 (by kernel_rfl) (by kernel_rfl) (c38 (x0 := to) (x1 := (s.1.length : Int)) (r := false) (by rw [in38,hb]) _) ?_;refine Ro.t 10 ?_;refine Ro.d (e39h x0 bt i s.1.length om s.2.length oo k false) ?_;refine Run.condF (by kernel_rfl) ?_;exact Run.skip ⟨rfl,rfl,oo,by kernel_rfl,hp⟩
  rw [hb] at h;have hb' := of_decide_eq_true hb;have hix : idx s.1 to = some (s.1.getD to.toNat false) := by
    unfold idx; rw [if_pos hb'.1]; simp [List.getD,show to.toNat < s.1.length by omega]
  refine RunO.c1 (by kernel_rfl) (by kernel_rfl) (c38 (x0 := to) (x1 := (s.1.length : Int)) (r := true) (by rw [in38,hb]) _) ?_;refine Ro.t 4 ?_;refine Ro.p hpos ?_;refine Ro.p hto ?_;obtain ⟨b,g,hom,hia⟩ := own_idx EB hp 0 rfl hix;subst hom;refine Ro.p (hia .i64) ?_;have hlm := own_ld EB hp 0 rfl hix (off := 0) (n := none) (v := .bool (s.1.getD to.toNat false)) rfl;refine Ro.p hlm ?_
  generalize s.1.getD to.toNat false = m at h
  cases m
  · simp only [Bool.not_false,Bool.and_self,if_true] at h;refine Ro.t 2 ?_;refine Ro.d (e39h x0 bt i s.1.length (some (b,g)) s.2.length oo k true) ?_;refine Run.condT (by kernel_rfl) ?_;refine Run.rgn ?_;refine Ro.t 3 ?_;refine Ro.p hpos ?_;refine Ro.p hto ?_;refine Ro.t 2 ?_;obtain ⟨hl,hw⟩ := hrec to s s' h;refine RunO.h1 (n := 39) (caps := []) (us := [E_Graph.e x0,.int .i64 to,slv 1 false s.1.length (some (b,g)),slv 1 false s.2.length oo]) (by kernel_rfl) (by kernel_rfl) (by kernel_rfl) ?_;refine (hw H (some (b,g)) oo (tbo bt t :: L) hp).mono ?_;rintro v h' ⟨oo',rfl,hp'⟩;refine Ro.t 1 ?_;exact RunO.nil ⟨rfl,hl,oo',by kernel_rfl,hp'⟩
  · simp only [Bool.not_true,Bool.and_false,Bool.false_eq_true,if_false] at h;cases h;refine Ro.t 2 ?_;refine Ro.d (e39h x0 bt i s.1.length (some (b,g)) s.2.length oo k false) ?_;refine Run.condF (by kernel_rfl) ?_;exact Run.skip ⟨rfl,rfl,oo,by kernel_rfl,hp⟩
end
theorem stepW_len {rec : Int → WS → Option WS} (hr : ∀ to s s',rec to s = some s' → s'.1.length = s.1.length) {t : T_Term} {k : Nat} {to : Int} {s s' : WS} (h : stepW rec t k to s = some s') : s'.1.length = s.1.length := by
  unfold stepW at h
  split at h
  · exact hr _ _ _ h
  · cases h; rfl
theorem walkV_len {bs : List T_Block} : ∀ n to s s',walkV bs n to s = some s' → s'.1.length = s.1.length := by
  intro n
  induction n with
  | zero => intro to s s' h; cases h
  | succ n ih =>
    intro to s s' h;unfold walkV at h;obtain ⟨met1,hm1,h⟩ := bind_some h;obtain ⟨b,hb,h⟩ := bind_some h;obtain ⟨s1,h1,h⟩ := bind_some h;obtain ⟨s2,h2,h⟩ := bind_some h;obtain ⟨o,hmore,rfl⟩ := Option.map_eq_some_iff.1 h;rw [stepW_len ih h2,stepW_len ih h1,upd_len hm1]
theorem walk39 (x0 : T_Graph) : ∀ n,RecW x0 (walkV x0.fBlocks n) := by
  intro n
  induction n with
  | zero => intro to s s' h; cases h
  | succ n ih =>
    intro i s s' h;refine ⟨walkV_len _ _ _ _ h,fun H om oo L hp => ?_⟩;unfold walkV at h;obtain ⟨met1,hm1,h⟩ := bind_some h;obtain ⟨b,hb,h⟩ := bind_some h;obtain ⟨s1,h1,h⟩ := bind_some h;obtain ⟨s2,h2,h⟩ := bind_some h;obtain ⟨o,hmore,rfl⟩ := Option.map_eq_some_iff.1 h;refine Fn.enterE t39 (e0 := (mkE [(0,E_Graph.e x0),(0,.int .i64 i),(0,slv 1 false s.1.length om),(0,slv 1 false s.2.length oo)] 61)) (by kernel_rfl) ?_;show Run T (.clr [] i39n26) _ _ (finE none [8] _);refine Rn.k (mkE [(0,E_Graph.e x0),(0,.int .i64 i),(0,slv 1 false s.1.length om),(0,slv 1 false s.2.length oo)] 61) ?_;refine Rn.g ?_;refine Ro.t 2 ?_;refine Ro.d (mkE [(1,.int .i64 i),(0,slv 1 false s.1.length om),(0,slv 1 false s.2.length oo),(0,.fp (E_Graph.e x0))] 60) ?_;refine Rn.g ?_;refine Ro.t 2 ?_;obtain ⟨x,hix⟩ := upd_in hm1;obtain ⟨c,g,hom,hia⟩ := own_idx EB hp 0 rfl hix;subst hom;refine Ro.p (hia .i64) ?_;refine RunO.st hp (by kernel_rfl) 0 rfl (by kernel_rfl) (by kernel_rfl) (own_st EB (a := true) hm1) ?_;intro H hp;have hl := upd_len hm1;rw [← hl];refine Ro.d (mkE [(1,.int .i64 i),(0,slv 1 false met1.length (some (c,g))),(0,slv 1 false s.2.length oo),(0,.fp (E_Graph.e x0))] 60) ?_;refine Rn.g ?_;refine Ro.t 3 ?_;refine Ro.p (idx_fz E_Block .i64 hb) ?_;refine Ro.t 2 ?_;refine RunO.alloc hp (by kernel_rfl) ?_;intro bt H hp;refine RunO.st hp (by kernel_rfl) 0 (off := 0) (v := E_Term.e b.fTerm) (cs' := E_Term.c b.fTerm) rfl (by kernel_rfl) (by kernel_rfl) (by kernel_rfl) ?_;intro H hp;have hp := hp.pick 2 rfl;have hp := hp.pick 2 rfl;have hp : HP H (obw (some (c,g)) met1 oo s.2 (tbo bt b.fTerm :: L)) := hp;refine Ro.d (mkE [(1,.int .i64 i),(0,slv 1 false met1.length (some (c,g))),(0,slv 1 false s.2.length oo),(0,.fp (E_Graph.e x0)),(4,.ptr bt 0 0)] 55) ?_;refine Run.seq ?_;refine Rn.g ?_;refine Ro.t 1 ?_;refine Ro.d (e39 x0 bt i met1.length (some (c,g)) s.2.length oo 0) ?_;refine Run.block ?_;have l1 := stepW_len (walkV_len n) h1;have l2 := stepW_len (walkV_len n) h2;refine Run.loopc (fun m e h => ∃ (k : Nat) (sk : WS) (oo' : Option (Nat × Nat)),(k = 0 ∧ m = 2 ∧ sk = (met1,s.2) ∨ k = 1 ∧ m = 1 ∧ sk = s1 ∨ k = 2 ∧ m = 0 ∧ sk = s2) ∧ HP h (obw (some (c,g)) sk.1 oo' sk.2 (tbo bt b.fTerm :: L)) ∧ e = e39 x0 bt i met1.length (some (c,g)) sk.2.length oo' k) 2
      ⟨0,(met1,s.2),oo,.inl ⟨rfl,rfl,rfl⟩,hp,by kernel_rfl⟩ ?_
    rintro m e H1 ⟨k,sk,oo1,hk,hp1,rfl⟩;refine Run.seq ?_;refine Rn.g ?_;refine Ro.t 2 ?_;rcases hk with ⟨rfl,rfl,rfl⟩ | ⟨rfl,rfl,rfl⟩ | ⟨rfl,rfl,rfl⟩
    · refine Ro.d (mkE [(1,.int .i64 i),(0,slv 1 false met1.length (some (c,g))),(0,slv 1 false s.2.length oo1),(0,.fp (E_Graph.e x0)),(4,.ptr bt 0 0),(0,.int .i64 0),(10,.bool true)] 43) ?_;refine Run.condT (by kernel_rfl) (Run.skip ?_);refine Rn.c (e39 x0 bt i met1.length (some (c,g)) s.2.length oo1 0) ?_;refine Run.seq (Run.block ?_);refine (round39 (s := (met1,s.2)) _ ih hp1 0 (.inl rfl) h1).mono ?_;rintro X e H2 ⟨rfl,hl,oo2,he,hp2⟩;show Run T (.clr cl39 (.rgn i39r15)) _ _ _;refine Run.clr ?_;rw [he];exact Run.rgn (Ro.t 3 (RunO.nil ⟨1,by omega,1,s1,oo2,.inr (.inl ⟨rfl,rfl,rfl⟩),hp2,by kernel_rfl⟩))
    · refine Ro.d (mkE [(1,.int .i64 i),(0,slv 1 false met1.length (some (c,g))),(0,slv 1 false sk.2.length oo1),(0,.fp (E_Graph.e x0)),(4,.ptr bt 0 0),(0,.int .i64 1),(10,.bool true)] 43) ?_;refine Run.condT (by kernel_rfl) (Run.skip ?_);refine Rn.c (e39 x0 bt i met1.length (some (c,g)) sk.2.length oo1 1) ?_;refine Run.seq (Run.block ?_);rw [← l1];refine (round39 (s := sk) _ ih hp1 1 (.inr rfl) h2).mono ?_;rintro X e H2 ⟨rfl,hl,oo2,he,hp2⟩;show Run T (.clr cl39 (.rgn i39r15)) _ _ _;refine Run.clr ?_;rw [he];exact Run.rgn (Ro.t 3 (RunO.nil ⟨0,by omega,2,s2,oo2,.inr (.inr ⟨rfl,rfl,rfl⟩),hp2,by rw [l1]; kernel_rfl⟩))
    · refine Ro.d (mkE [(1,.int .i64 i),(0,slv 1 false met1.length (some (c,g))),(0,slv 1 false sk.2.length oo1),(0,.fp (E_Graph.e x0)),(4,.ptr bt 0 0),(0,.int .i64 2),(10,.bool false)] 43) ?_;refine Run.condF (by kernel_rfl) (Run.exit ?_);show Run T (.clr _ i39n22) _ _ _;refine Rn.k (mkE [(1,.int .i64 i),(1,slv 1 false sk.2.length oo1)] 61) ?_;refine Rn.g ?_;refine Ro.t 3 ?_;refine RunO.app1 (EI .i64) hp1 (by kernel_rfl) 1 (o := oo1) (l := sk.2) (rest := []) (m := [i]) rfl (by kernel_rfl) (by kernel_rfl) ((EI .i64).new_fz _ [i]) (by kernel_rfl) (by kernel_rfl) hmore ?_;intro o' H hp;refine Ro.t 1 ?_;refine Ro.d (mkE [(8,slv 1 false o.length o')] 56) ?_;refine Run.ret ?_;exact ⟨slv 1 false o.length o',by kernel_rfl,o',rfl,hp.del 2⟩
theorem walk_len8 {bs : List T_Block} {n : Nat} {i : Int} {s0 s : WS} (h : walkV bs (n + 1) i s0 = some s) : s.2.length * 8 ≤ 140737488355328 := by
  unfold walkV at h;obtain ⟨met1,hm1,h⟩ := bind_some h;obtain ⟨b,hb,h⟩ := bind_some h;obtain ⟨s1,h1,h⟩ := bind_some h;obtain ⟨s2,h2,h⟩ := bind_some h;obtain ⟨o,hmore,rfl⟩ := Option.map_eq_some_iff.1 h;obtain ⟨rfl,hc⟩ := more_len hmore;simp only [List.length_append];exact hc
theorem c21s {x0 : T_Graph} {r : List Int} (h : orderV x0 = some r) (sb : Bool) : Fn T 21 [(E_Graph.e x0)] [] (fun v hh => deep sb hh deepN v = some ((EL (EI .i64)).e r)) := by
  unfold orderV at h;refine Fn.enterE t21 (e0 := (mkE [(0,E_Graph.e x0)] 30)) (by kernel_rfl) ?_;show Run T (.clr [] i21n26) _ _ (finE none [2] _);refine Rn.k (mkE [(0,E_Graph.e x0)] 30) ?_;refine Rn.g ?_;refine Ro.t 2 ?_;refine Ro.d (mkE [(1,.fp (E_Graph.e x0))] 29) ?_;refine Run.seq ?_;refine Rn.g ?_;refine Ro.t 2 ?_;refine Ro.p (len_fz E_Block x0.fBlocks) ?_
  by_cases h0 : x0.fBlocks.length = 0
  · rw [if_pos h0] at h;cases h;refine Ro.p (u := .bool true) (v := some (.bool (decide (((List.length x0.fBlocks : Nat) : Int) = 0)))) (by rw [decide_eq_true (by omega)]) ?_;refine Ro.d (mkE [(1,.fp (E_Graph.e x0)),(7,.bool true)] 21) ?_;refine Run.condT (by kernel_rfl) ?_;refine Run.nowR 30 (cs := none) (res := [2]) (v := .nils) (H' := []) (by kernel_rfl) rfl (fun e h hh => hh)
  rw [if_neg h0] at h;obtain ⟨met,hmade,h⟩ := bind_some h;obtain ⟨s,hw,h⟩ := bind_some h;refine Ro.p (u := .bool false) (v := some (.bool (decide (((List.length x0.fBlocks : Nat) : Int) = 0)))) (by rw [decide_eq_false (by omega)]) ?_;refine Ro.d (mkE [(1,.fp (E_Graph.e x0)),(7,.bool false)] 21) ?_;refine Run.condF (by kernel_rfl) ?_;refine Run.skip ?_;refine Rn.c (mkE [(1,.fp (E_Graph.e x0))] 29) ?_;refine Rn.g ?_;refine Ro.t 3 ?_;refine Ro.p (len_fz E_Block x0.fBlocks) ?_;refine RunO.mks1 EB HP.nil (by kernel_rfl) (a := false) (n := ((List.length x0.fBlocks : Nat) : Int)) (l := met) (by kernel_rfl) (by kernel_rfl) (by kernel_rfl) (by kernel_rfl) (by kernel_rfl) hmade ?_;intro b H hp;have hp0 : HP H (obw (some (b,0)) met none [] []) := (hp.non).pick 1 rfl;refine RunO.h1 (n := 39) (caps := []) (us := [E_Graph.e x0,.int .i64 0,slv 1 false met.length (some (b,0)),slv 1 false ([] : List Int).length none]) (by kernel_rfl) (by kernel_rfl) (by kernel_rfl) ?_;refine ((walk39 x0 _ 0 (met,[]) s hw).2 H (some (b,0)) none [] hp0).mono ?_;rintro v H ⟨oo,rfl,hp⟩;refine Ro.t 1 ?_;refine Ro.d (mkE [(3,slv 1 false s.2.length oo)] 27) ?_;refine Rn.g ?_;refine Ro.t 1 ?_;refine Ro.d (mkE [(3,slv 1 false s.2.length oo),(0,.nils)] 26) ?_;have hbig := walk_len hw;have hbig8 := walk_len8 hw;have hr : r = s.2.reverse := by
    have h2 := F36_is s.2 hbig;rw [h2] at h; cases h; rfl
  subst hr
  generalize s.2 = l at *
  refine Run.seq ?_;refine Rn.g ?_;refine Ro.t 1 ?_;refine Ro.p (own_len (EI .i64) hp 1 rfl) ?_;have hw1 : IntKind.i64.wrap (((List.length l : Nat) : Int) - 1) = ((l.length : Nat) : Int) - 1 := wrap64_in (by omega) (by omega);refine Ro.t 2 ?_;refine Ro.d (mkE [(3,slv 1 false l.length oo),(0,.nils),(0,.int .i64 (IntKind.i64.wrap (((List.length l : Nat) : Int) - 1)))] 25) ?_;refine Run.block ?_;have hp := hp.non;refine Run.loopc (fun m e h => ∃ (o2 : Option (Nat × Nat)) (out : List Int) (x : Int),m ≤ l.length ∧ x = (m : Int) - 1 ∧ out = (l.drop m).reverse ∧ HP h ((o2,out.flatMap (EI .i64).c ++ []) :: obw (some (b,0)) s.1 oo l []) ∧ e = (mkE [(3,slv 1 false l.length oo),(0,slv 1 false out.length o2),(0,.int .i64 x)] 25)) l.length
    ⟨none,[],_,Nat.le_refl _,hw1,by simp,hp,by kernel_rfl⟩ ?_
  rintro m e H ⟨o2,out,x,hm,hx,hout,hp,rfl⟩;refine Run.seq ?_;refine Rn.g ?_;refine Ro.t 2 ?_;refine Ro.d (mkE [(3,slv 1 false l.length oo),(0,slv 1 false out.length o2),(0,.int .i64 x),(14,.bool (decide (0 ≤ x)))] 10) ?_
  by_cases h0 : m = 0
  · refine Run.condF (by rw [decide_eq_false (show ¬ 0 ≤ x by omega)]; kernel_rfl) (Run.exit ?_);subst h0;show Run T (.clr _ i21n21) _ _ _;refine Rn.k (mkE [(4,slv 1 false out.length o2)] 26) ?_;refine Rn.g ?_;refine Ro.t 2 ?_;refine Ro.d (mkE [(2,slv 1 false out.length o2)] 28) ?_;refine Run.ret ⟨slv 1 false out.length o2,by kernel_rfl,?_⟩;rw [List.drop_zero] at hout;subst hout;exact own_deep (EI .i64) hp 0 rfl sb (.inr rfl) 36
  · refine Run.condT (by rw [decide_eq_true (show 0 ≤ x by omega)]; kernel_rfl) (Run.skip ?_);refine Rn.c (mkE [(3,slv 1 false l.length oo),(0,slv 1 false out.length o2),(0,.int .i64 x)] 25) ?_;refine Run.seq (Run.block (Run.rgn ?_));obtain ⟨j,rfl⟩ : ∃ j,m = j + 1 := ⟨m - 1,by omega⟩;have hxj : x = (j : Int) := by omega
    have hk : l[j]? = some (l[j]'(by omega)) := List.getElem?_eq_getElem (by omega);have hdrop : l.drop j = l[j]'(by omega) :: l.drop (j + 1) := List.drop_eq_getElem_cons (by omega)
    generalize l[j]'(by omega) = a at hk hdrop
    have hix : idx l x = some a := by rw [hxj]; exact idx_some hk
    obtain ⟨b',g',hro,hia⟩ := own_idx (EI .i64) hp 2 rfl hix;subst hro;refine Ro.t 3 ?_;refine Ro.p (hia .i64) ?_;refine Ro.p (own_ld (EI .i64) hp 2 rfl hix (off := 0) (n := none) (v := .int .i64 a) rfl) ?_;refine Ro.t 1 ?_;refine RunO.app1 (EI .i64) hp (by kernel_rfl) 0 (o := o2) (l := out) (rest := []) (m := [a]) (l' := out ++ [a]) rfl (by kernel_rfl) (by kernel_rfl) ((EI .i64).new_fz _ [a]) (by kernel_rfl) (by kernel_rfl) (by unfold more; exact if_pos (by rw [hout]; simp; omega)) ?_;intro o3 H hp;refine Ro.t 1 ?_;refine RunO.nil ?_;show Run T (.clr _ (.rgn i21r14)) _ _ _;refine Rn.k (mkE [(3,slv 1 false l.length (some (b',g'))),(0,slv 1 false (out ++ [a]).length o3),(0,.int .i64 x)] 25) ?_;have hwx : IntKind.i64.wrap (x - 1) = ((j : Nat) : Int) - 1 := by rw [hxj]; exact wrap64_in (by omega) (by omega)
    exact Run.rgn (Ro.t 3 (RunO.nil ⟨j,by omega,o3,out ++ [a],_,by omega,hwx,by rw [hdrop,List.reverse_cons,hout],hp,by kernel_rfl⟩))
theorem c21 {x0 : T_Graph} {r : List Int} (h : orderV x0 = some r) : Fn T 21 [(E_Graph.e x0)] [] (fun v hh => deep false hh deepN v = some ((EL (EI .i64)).e r)) := c21s h false
end Go.Eng.Gra
namespace Go.Eng.Gra
open Go Go.Eng
set_option linter.unusedSectionVars false
set_option linter.unusedVariables false
set_option linter.unusedSimpArgs false
set_option maxRecDepth 20000
theorem more_nil {α : Type} {by_ : Nat} {l : List α} (h : l.length * by_ ≤ 140737488355328) : more by_ ([] : List α) l = some l := by unfold more; rw [if_pos (by simpa using h)]; rfl
theorem c66 {x : T_Ins} (h : x.fArgs.length * 8 ≤ 140737488355328) : Fn T 66 [E_Ins.e x] [] (fun v hh => deep false hh deepN v = some (E_Ins.e x)) := by
  refine Fn.enterE t66 (e0 := (mkE [(0,E_Ins.e x)] 8)) (by kernel_rfl) ?_;show Run T (.fin [some (some 6)] (.clr [] i66n5)) _ _ (finE (some [some (some 6)]) [2] _);refine Run.finb ?_;refine Rn.k (mkE [(0,E_Ins.e x)] 8) ?_;refine Rn.g ?_;refine RunO.boxh HP.nil (by kernel_rfl) (v := E_Ins.e x) (by kernel_rfl) rfl ?_;intro b1 H hp;refine RunO.alloc hp (by kernel_rfl) ?_;intro b2 H hp;refine Ro.d (mkE [(1,.ptr b1 0 0),(0,.ptr b2 0 0)] 6) ?_;refine Rn.g ?_;refine RunO.bslh1 (EI .i64) (xs := []) hp (by kernel_rfl) (by kernel_rfl) ?_;intro b3 H hp;refine Ro.t 1 ?_;refine Ro.p (hp.ld 2 (off := 3) (n := none) (v := (EL (EI .i64)).e x.fArgs) rfl rfl) ?_;refine RunO.app1 (EI .i64) hp (by kernel_rfl) 0 (o := some (b3,0)) (l := []) (rest := []) (m := x.fArgs) rfl (by kernel_rfl) (by kernel_rfl) ((EI .i64).new_fz _ x.fArgs) (by kernel_rfl) (by kernel_rfl) (more_nil h) ?_;intro o' H hp;refine Ro.t 1 ?_;have hs : stC (E_Ins.c x) 3 (slv 1 false x.fArgs.length o') none = some [.int .u8 x.fKind,.int .u8 x.fOp,.int .i64 x.fDst,slv 1 false x.fArgs.length o',.int .u64 x.fBits,.int .i64 x.fRef] := by cases o' <;> rfl
  refine RunO.st hp (by kernel_rfl) 2 (off := 3) (v := slv 1 false x.fArgs.length o') rfl (by kernel_rfl) (by kernel_rfl) hs ?_;intro H hp;refine Ro.d (mkE [(1,.ptr b1 0 0),(0,.ptr b2 0 0)] 6) ?_;refine Rn.g ?_;refine Ro.p (hp.ld 2 (off := 0) (n := some 6) (v := .ag [.int .u8 x.fKind,.int .u8 x.fOp,.int .i64 x.fDst,slv 1 false x.fArgs.length o',.int .u64 x.fBits,.int .i64 x.fRef]) rfl (by cases o' <;> rfl)) ?_;refine RunO.st hp (by kernel_rfl) 1 (off := 0) (v := .ag [.int .u8 x.fKind,.int .u8 x.fOp,.int .i64 x.fDst,slv 1 false x.fArgs.length o',.int .u64 x.fBits,.int .i64 x.fRef]) (cs' := [.int .u8 x.fKind,.int .u8 x.fOp,.int .i64 x.fDst,slv 1 false x.fArgs.length o',.int .u64 x.fBits,.int .i64 x.fRef]) rfl (by kernel_rfl) (by kernel_rfl) (by cases o' <;> rfl) ?_;intro H hp;refine Ro.d (mkE [(2,.ptr b2 0 0)] 6) ?_;refine Run.ret ?_;have hw : ldV H (.ptr b2 0 0) (some 6) = some (.ag [.int .u8 x.fKind,.int .u8 x.fOp,.int .i64 x.fDst,slv 1 false x.fArgs.length o',.int .u64 x.fBits,.int .i64 x.fRef]) := hp.ld 1 (off := 0) (n := some 6) rfl (by cases o' <;> rfl);refine ⟨_,resW_cells (vs := [.ag [.int .u8 x.fKind,.int .u8 x.fOp,.int .i64 x.fDst,slv 1 false x.fArgs.length o',.int .u64 x.fBits,.int .i64 x.fRef]]) (omapc hw rfl),?_⟩;have hd : deep false H 39 (slv 1 false x.fArgs.length o') = some ((EL (EI .i64)).e x.fArgs) := own_deep (EI .i64) hp 0 rfl false (.inl rfl) 35;have : omap (deep false H 39) [.int .u8 x.fKind,.int .u8 x.fOp,.int .i64 x.fDst,slv 1 false x.fArgs.length o',.int .u64 x.fBits,.int .i64 x.fRef] = some (E_Ins.c x) :=
    omapc rfl (omapc rfl (omapc rfl (omapc hd rfl)))
  show (omap (deep false H 39) _).map V.ag = _;rw [this]; rfl
abbrev CG (x0 : T_Graph) (op ov oa : Option (Nat × Nat)) (w : V) : List V := [ES.e x0.fName,slv 1 false x0.fParams.length op,.int .u8 x0.fResult,slv 1 false x0.fVars.length ov,slv 2 true x0.fArrays.length oa,w]
structure Cok (x0 : T_Graph) : Prop where
  p : x0.fParams.length * 8 ≤ 140737488355328
  v : x0.fVars.length * 1 ≤ 140737488355328
  a : x0.fArrays.length * 16 ≤ 140737488355328
  b : x0.fBlocks.length ≤ 1048576
  i : ∀ b ∈ x0.fBlocks,b.fIns.length * 56 ≤ 140737488355328
  x : ∀ b ∈ x0.fBlocks,∀ x ∈ b.fIns,x.fArgs.length * 8 ≤ 140737488355328
abbrev OV (ov : Option (Nat × Nat)) (l : List Int) : Ob := (ov,l.flatMap (EI .u8).c ++ [])
abbrev OI (op : Option (Nat × Nat)) (l : List Int) : Ob := (op,l.flatMap (EI .i64).c ++ [])
abbrev OA (oa : Option (Nat × Nat)) (l : List T_Array) : Ob := (oa,l.flatMap E_Array.c ++ [])
def e48 (b1 b2 : Nat) (n : Nat) (ob : Option (Nat × Nat)) (x : Int) : List V := (mkE [(1,.ptr b1 0 0),(0,.ptr b2 0 0),(0,slv 6 true n ob),(0,.int .i64 x)] 64)
def e48i (b1 b2 b5 : Nat) (n : Nat) (ob : Option (Nat × Nat)) (x y : Int) : List V := (mkE [(1,.ptr b1 0 0),(0,.ptr b2 0 0),(0,slv 6 true n ob),(0,.int .i64 x),(0,.ptr b5 0 0),(0,.int .i64 y)] 62)
abbrev clI : List Nat := [6,36,37,38,39,40,41,42,43,44,45,46,47,48,49,50,51,52,53,54,55,56,57,58,59,60,61]
theorem ins48 {b1 b2 b5 n : Nat} {ob : Option (Nat × Nat)} {x0 : T_Graph} {x : Int} {b : T_Block} (hb : idx x0.fBlocks x = some b) (hin : b.fIns.length * 56 ≤ 140737488355328) (hxs : ∀ x ∈ b.fIns,x.fArgs.length * 8 ≤ 140737488355328)
    {op ov oa : Option (Nat × Nat)} {A1 A2 A3 A4 : Ob} {L : List Ob} {H : Heap} (Q : X → List V → Heap → Prop)
    (hp : HP H ((some (b5,0),.nils :: E_Term.c b.fTerm) :: A1 :: A2 :: A3 :: A4 :: (some (b1,0),CG x0 op ov oa (.fz (x0.fBlocks.map E_Block.e))) :: L))
    (hq : ∀ (o : Option (Nat × Nat)) (H' : Heap) (e' : List V),clrEnv clI e' = (mkE [(1,.ptr b1 0 0),(0,.ptr b2 0 0),(0,slv 6 true n ob),(0,.int .i64 x),(0,.ptr b5 0 0)] 63) →
      HP H' ((o,b.fIns.flatMap E_Ins.c ++ []) :: (some (b5,0),slv 6 true b.fIns.length o :: E_Term.c b.fTerm) :: A1 :: A2 :: A3 :: A4 :: (some (b1,0),CG x0 op ov oa (.fz (x0.fBlocks.map E_Block.e))) :: L) → Q .nrm e' H') :
    Run T i48n21 (mkE [(1,.ptr b1 0 0),(0,.ptr b2 0 0),(0,slv 6 true n ob),(0,.int .i64 x),(0,.ptr b5 0 0)] 63) H Q := by
  refine Rn.g ?_;refine Ro.t 1 ?_;refine Ro.d (e48i b1 b2 b5 n ob x 0) ?_;refine Run.block ?_;refine Run.loopc (fun m e h => ∃ (k : Nat) (y : Int) (o : Option (Nat × Nat)),y = (k : Int) ∧ k ≤ b.fIns.length ∧ m = b.fIns.length - k ∧ e = e48i b1 b2 b5 n ob x y ∧
      HP h ((o,(b.fIns.take k).flatMap E_Ins.c ++ []) :: (some (b5,0),slv 6 true (b.fIns.take k).length o :: E_Term.c b.fTerm) :: A1 :: A2 :: A3 :: A4 :: (some (b1,0),CG x0 op ov oa (.fz (x0.fBlocks.map E_Block.e))) :: L)) b.fIns.length
    ⟨0,0,none,rfl,by omega,by omega,by kernel_rfl,hp.non⟩ ?_
  rintro m e H ⟨k,y,o,hy,hk,rfl,rfl,hp⟩;have hg := hp.ld 6 (off := 5) (n := none) (v := .fz (x0.fBlocks.map E_Block.e)) rfl rfl;refine Run.seq ?_;refine Rn.g ?_;refine Ro.t 2 ?_;refine Ro.p hg ?_;refine Ro.t 1 ?_;refine Ro.p (idx_fz E_Block .i64 hb) ?_;refine Ro.t 2 ?_;refine Ro.p (len_fz E_Ins b.fIns) ?_;refine Ro.t 1 ?_;refine Ro.d (mkE [(1,.ptr b1 0 0),(0,.ptr b2 0 0),(0,slv 6 true n ob),(0,.int .i64 x),(0,.ptr b5 0 0),(0,.int .i64 y),(37,.bool (decide (y < (ln b.fIns))))] 24) ?_
  by_cases hlt : k < b.fIns.length
  · refine Run.condT (by rw [decide_eq_true (show y < ln b.fIns by show y < ((List.length b.fIns : Nat) : Int); omega)]; kernel_rfl) (Run.skip ?_);refine Rn.c (e48i b1 b2 b5 n ob x y) ?_;have hz : b.fIns[k]? = some b.fIns[k] := List.getElem?_eq_getElem hlt;have htake : b.fIns.take (k + 1) = b.fIns.take k ++ [b.fIns[k]] := List.take_succ_eq_append_getElem hlt
    generalize b.fIns[k] = z at hz htake
    have hzi : idx b.fIns y = some z := by rw [hy]; exact idx_some hz
    have hzb := hxs z (List.mem_of_getElem? hz);have hld := hp.ld 1 (off := 0) (n := none) (v := slv 6 true (b.fIns.take k).length o) rfl rfl;refine Run.seq (Run.block (Run.rgn ?_));refine Ro.t 1 ?_;refine Ro.p hld ?_;refine Ro.t 1 ?_;refine Ro.p hg ?_;refine Ro.t 1 ?_;refine Ro.p (idx_fz E_Block .i64 hb) ?_;refine Ro.t 3 ?_;refine Ro.p (idx_fz E_Ins .i64 hzi) ?_;refine Ro.t 1 ?_;refine RunO.c2 (by kernel_rfl) (by kernel_rfl) (by kernel_rfl) (c66 hzb) ?_;refine Ro.t 1 ?_;refine RunO.app1 E_Ins hp (by kernel_rfl) 0 (o := o) (l := b.fIns.take k) (rest := []) (m := [z]) (l' := b.fIns.take (k + 1)) rfl (by kernel_rfl) (by kernel_rfl) (E_Ins.new_fz _ [z]) (by kernel_rfl) (by kernel_rfl) (by rw [htake]; unfold more; exact if_pos (by simp; omega)) ?_;intro o' H hp;refine Ro.t 1 ?_;refine RunO.st hp (by kernel_rfl) 1 (off := 0) (v := slv 6 true (b.fIns.take (k + 1)).length o') (cs' := slv 6 true (b.fIns.take (k + 1)).length o' :: E_Term.c b.fTerm) rfl (by kernel_rfl) (by kernel_rfl) (by cases o' <;> rfl) ?_;intro H hp;refine RunO.nil ?_;show Run T (.clr _ (.rgn i48r16)) _ _ _;refine Rn.k (e48i b1 b2 b5 n ob x y) ?_;have hwx : IntKind.i64.wrap (y + 1) = ((k + 1 : Nat) : Int) := by rw [hy,wrap64_in (by omega) (by omega)]; omega
    exact Run.rgn (Ro.t 3 (RunO.nil ⟨b.fIns.length - (k + 1),by omega,k + 1,_,o',hwx,by omega,rfl,by kernel_rfl,hp⟩))
  · refine Run.condF (by rw [decide_eq_false (show ¬ y < ln b.fIns by show ¬ y < ((List.length b.fIns : Nat) : Int); omega)]; kernel_rfl) (Run.exit ?_);rw [List.take_of_length_le (by omega)] at hp;exact hq o H _ (by kernel_rfl) hp
end Go.Eng.Gra
namespace Go.Eng.Gra
open Go Go.Eng
set_option linter.unusedSectionVars false
set_option linter.unusedVariables false
set_option linter.unusedSimpArgs false
set_option maxRecDepth 20000
theorem stC_1 {x0 : T_Graph} {op : Option (Nat × Nat)} : stC (E_Graph.c x0) 1 (slv 1 false x0.fParams.length op) none = some [ES.e x0.fName,slv 1 false x0.fParams.length op,.int .u8 x0.fResult,.fz (x0.fVars.map (EI .u8).e),.fz (x0.fArrays.map E_Array.e),.fz (x0.fBlocks.map E_Block.e)] := by cases op <;> rfl
theorem stC_2 {x0 : T_Graph} {op ov : Option (Nat × Nat)} : stC [ES.e x0.fName,slv 1 false x0.fParams.length op,.int .u8 x0.fResult,.fz (x0.fVars.map (EI .u8).e),.fz (x0.fArrays.map E_Array.e),.fz (x0.fBlocks.map E_Block.e)] 3 (slv 1 false x0.fVars.length ov) none = some [ES.e x0.fName,slv 1 false x0.fParams.length op,.int .u8 x0.fResult,slv 1 false x0.fVars.length ov,.fz (x0.fArrays.map E_Array.e),.fz (x0.fBlocks.map E_Block.e)] := by cases ov <;> rfl
theorem stC_3 {x0 : T_Graph} {op ov oa : Option (Nat × Nat)} : stC [ES.e x0.fName,slv 1 false x0.fParams.length op,.int .u8 x0.fResult,slv 1 false x0.fVars.length ov,.fz (x0.fArrays.map E_Array.e),.fz (x0.fBlocks.map E_Block.e)] 4 (slv 2 true x0.fArrays.length oa) none = some (CG x0 op ov oa (.fz (x0.fBlocks.map E_Block.e))) := by cases oa <;> rfl
theorem stC_4 {x0 : T_Graph} {op ov oa ob : Option (Nat × Nat)} {w : V} {n : Nat} : stC (CG x0 op ov oa w) 5 (slv 6 true n ob) none = some (CG x0 op ov oa (slv 6 true n ob)) := by cases ob <;> rfl
theorem stC_5 {x0 : T_Graph} {op ov oa ob : Option (Nat × Nat)} {n : Nat} : stC ZG 0 (.ag (CG x0 op ov oa (slv 6 true n ob))) (some 6) = some (CG x0 op ov oa (slv 6 true n ob)) := by
  cases op <;> cases ov <;> cases oa <;> cases ob <;> rfl
theorem ld_CG {x0 : T_Graph} {op ov oa ob : Option (Nat × Nat)} {n : Nat} : takeSh (CG x0 op ov oa (slv 6 true n ob)) 0 (some 6) = some (.ag (CG x0 op ov oa (slv 6 true n ob))) := by
  cases op <;> cases ov <;> cases oa <;> cases ob <;> rfl
theorem RB.c_ld {r : RB} (h : r.ok) : takeSh r.c 0 (some 6) = some (.ag r.c) := by
  rcases h with h | ⟨_,_,h⟩
  · unfold RB.c; rw [h]; cases r.o <;> rfl
  · unfold RB.c; rw [h]; rfl
theorem bl48 {b1 b2 : Nat} {x0 : T_Graph} (hk : Cok x0) {op ov oa : Option (Nat × Nat)} {A1 A2 A3 A4 : Ob} {L : List Ob} {H : Heap} (Q : X → List V → Heap → Prop)
    (hp : HP H (A1 :: A2 :: A3 :: A4 :: (some (b1,0),CG x0 op ov oa (.fz (x0.fBlocks.map E_Block.e))) :: L))
    (hq : ∀ (rows : List RB) (ob : Option (Nat × Nat)) (H' : Heap) (e' : List V),clrEnv [4,5,6,22,23,24,25,26,27,28,29,30,31,32,33,34,35,36,37,38,39,40,41,42,43,44,45,46,47,48,49,50,51,52,53,54,55,56,57,58,59,60,61,62,63,64,65] e' = (mkE [(1,.ptr b1 0 0),(0,.ptr b2 0 0),(0,slv 6 true rows.length ob)] 65) →
      (∀ q ∈ rows,q.ok) → rows.map RB.b = x0.fBlocks → HP H' (A1 :: A2 :: A3 :: A4 :: (some (b1,0),CG x0 op ov oa (.fz (x0.fBlocks.map E_Block.e))) :: (ob,rbs rows ++ []) :: (robs rows.reverse ++ L)) → Q .nrm e' H') :
    Run T i48n31 (mkE [(1,.ptr b1 0 0),(0,.ptr b2 0 0),(0,.nils)] 65) H Q := by
  refine Rn.g ?_;refine Ro.t 1 ?_;refine Ro.d (e48 b1 b2 0 none 0) ?_;refine Run.block ?_;refine Run.loopc (fun m e h => ∃ (i : Nat) (x : Int) (rows : List RB) (ob : Option (Nat × Nat)),x = (i : Int) ∧ i ≤ x0.fBlocks.length ∧ m = x0.fBlocks.length - i ∧ rows.length = i ∧ (∀ q ∈ rows,q.ok) ∧ rows.map RB.b = x0.fBlocks.take i ∧ e = e48 b1 b2 rows.length ob x ∧
      HP h (A1 :: A2 :: A3 :: A4 :: (some (b1,0),CG x0 op ov oa (.fz (x0.fBlocks.map E_Block.e))) :: (ob,rbs rows ++ []) :: (robs rows.reverse ++ L))) x0.fBlocks.length
    ⟨0,0,[],none,rfl,by omega,by omega,rfl,fun _ h => absurd h List.not_mem_nil,by simp,by kernel_rfl,by
      have h1 := (((((hp.non).pick 5 rfl).pick 5 rfl).pick 5 rfl).pick 5 rfl).pick 5 rfl
      simpa [rbs,robs] using h1⟩ ?_
  rintro m e H ⟨i,x,rows,ob,hx,hi,rfl,hrl,hok,hrows,rfl,hp⟩;have hg := hp.ld 4 (off := 5) (n := none) (v := .fz (x0.fBlocks.map E_Block.e)) rfl rfl;refine Run.seq ?_;refine Rn.g ?_;refine Ro.t 2 ?_;refine Ro.p hg ?_;refine Ro.p (len_fz E_Block x0.fBlocks) ?_;refine Ro.t 1 ?_;refine Ro.d (mkE [(1,.ptr b1 0 0),(0,.ptr b2 0 0),(0,slv 6 true rows.length ob),(0,.int .i64 x),(21,.bool (decide (x < (ln x0.fBlocks))))] 42) ?_
  by_cases hlt : i < x0.fBlocks.length
  · refine Run.condT (by rw [decide_eq_true (show x < ln x0.fBlocks by show x < ((List.length x0.fBlocks : Nat) : Int); omega)]; kernel_rfl) (Run.skip ?_);refine Rn.c (e48 b1 b2 rows.length ob x) ?_;have hz : x0.fBlocks[i]? = some x0.fBlocks[i] := List.getElem?_eq_getElem hlt;have htake : x0.fBlocks.take (i + 1) = x0.fBlocks.take i ++ [x0.fBlocks[i]] := List.take_succ_eq_append_getElem hlt
    generalize x0.fBlocks[i] = b at hz htake
    have hbi : idx x0.fBlocks x = some b := by rw [hx]; exact idx_some hz
    have hbm := List.mem_of_getElem? hz;have hkb := hk.b;refine Run.seq (Run.block ?_);refine Rn.g ?_;refine Ro.t 1 ?_;refine Ro.p hg ?_;refine Ro.t 1 ?_;refine Ro.p (idx_fz E_Block .i64 hbi) ?_;refine Ro.t 3 ?_;refine RunO.alloc hp (by kernel_rfl) ?_;intro b5 H hp;refine RunO.st hp (by kernel_rfl) 0 (off := 0) (v := .ag (.nils :: E_Term.c b.fTerm)) (cs' := .nils :: E_Term.c b.fTerm) rfl (by kernel_rfl) (by kernel_rfl) (by kernel_rfl) ?_;intro H hp;refine Ro.d (mkE [(1,.ptr b1 0 0),(0,.ptr b2 0 0),(0,slv 6 true rows.length ob),(0,.int .i64 x),(0,.ptr b5 0 0)] 63) ?_;refine Run.seq ?_;refine ins48 hbi (hk.i b hbm) (hk.x b hbm) _ hp (fun o H e he hp => ?_);show Run T (.clr _ (.rgn i48r22)) _ _ _;refine Run.clr ?_;rw [he]
    let r : RB := ⟨o,slv 6 true b.fIns.length o,b.fIns,b.fTerm⟩
    have hrok : r.ok := .inl rfl;refine Run.rgn ?_;refine Ro.t 1 ?_;refine Ro.p (hp.ld 1 (off := 0) (n := some 6) (v := .ag r.c) rfl (RB.c_ld hrok)) ?_;refine RunO.w1 (u := .sl H.length 0 0 1 6 true) (H1 := H ++ [(0,r.c)]) (v := bslV H 6 true 1 (.ag [.nils,.int .u8 0,.int .i64 0,.int .i64 0,.int .i64 0,.int .u8 0]) [(0,.ag r.c)] false) (by kernel_rfl) rfl (by kernel_rfl) (bsl_rb hrok) ?_;have hp2 := hp.new r.c;obtain ⟨ob',H3,happ,hp3⟩ := raw_app hp2 8 (o := ob) (cs := rbs rows ++ []) rfl (n := rows.length) (z := 6) (by_ := 64) (ag := true) (by rw [List.append_nil,rbs_len]) (by decide) (new_rb hp2 (i := 0) rfl) (by decide) hrok.all (by have := hk.b; omega);refine RunO.w1 (u := slv 6 true (rows.length + 1) ob') (H1 := H3) (v := appV (H ++ [(0,r.c)]) (slv 6 true rows.length ob) (.sl H.length 0 0 1 6 true) 6 true 64) (by kernel_rfl) rfl (by kernel_rfl) happ ?_;refine Ro.t 1 ?_;refine RunO.nil ?_;show Run T (.clr _ (.rgn i48r26)) _ _ _;have el : (rows ++ [r]).length = rows.length + 1 := by simp
    have ec : rbs (rows ++ [r]) ++ [] = rbs rows ++ [] ++ r.c := by rw [rbs_snoc]; simp
    rw [← el];refine Rn.k (e48 b1 b2 (rows ++ [r]).length ob' x) ?_;have hwx : IntKind.i64.wrap (x + 1) = ((i + 1 : Nat) : Int) := by rw [hx,wrap64_in (by omega) (by omega)]; omega
    refine Run.rgn (Ro.t 3 (RunO.nil ⟨x0.fBlocks.length - (i + 1),by omega,i + 1,_,rows ++ [r],ob',hwx,by omega,rfl,by simp [hrl],?_,?_,by kernel_rfl,?_⟩))
    · intro q hq';rcases List.mem_append.1 hq' with h | h
      · exact hok q h
      · rw [List.mem_singleton.1 h]; exact hrok
    · rw [htake,List.map_append,hrows]; rfl
    · have h4 := (hp3.del 0).del 1;have h5 := (((((h4.pick 6 rfl).pick 6 rfl).pick 6 rfl).pick 6 rfl).pick 6 rfl).pick 6 rfl;rw [ec,List.reverse_append];exact h5
  · refine Run.condF (by rw [decide_eq_false (show ¬ x < ln x0.fBlocks by show ¬ x < ((List.length x0.fBlocks : Nat) : Int); omega)]; kernel_rfl) (Run.exit ?_);rw [List.take_of_length_le (by omega)] at hrows;exact hq rows ob H _ (by kernel_rfl) hok hrows hp
theorem w48 {x0 : T_Graph} (hk : Cok x0) {L : List Ob} {H : Heap} (hp : HP H L) : Fn T 48 [E_Graph.e x0] H (fun v h => ∃ (op ov oa ob : Option (Nat × Nat)) (rows : List RB),v = .ag (CG x0 op ov oa (slv 6 true rows.length ob)) ∧ (∀ q ∈ rows,q.ok) ∧ rows.map RB.b = x0.fBlocks ∧
    HP h (OA oa x0.fArrays :: OV ov x0.fVars :: OI op x0.fParams :: (ob,rbs rows ++ []) :: (robs rows.reverse ++ L))) := by
  refine Fn.enterE t48 (e0 := (mkE [(0,E_Graph.e x0)] 68)) (by kernel_rfl) ?_;show Run T (.fin [some (some 6)] (.clr [] i48n41)) _ _ (finE (some [some (some 6)]) [2] _);refine Run.finb ?_;refine Rn.k (mkE [(0,E_Graph.e x0)] 68) ?_;refine Rn.g ?_;refine RunO.boxh hp (by kernel_rfl) (v := E_Graph.e x0) (by kernel_rfl) rfl ?_;intro b1 H hp;refine RunO.alloc hp (by kernel_rfl) ?_;intro b2 H hp;refine Ro.d (mkE [(1,.ptr b1 0 0),(0,.ptr b2 0 0)] 66) ?_;refine Rn.g ?_;refine RunO.bslh1 (EI .i64) (xs := []) hp (by kernel_rfl) (by kernel_rfl) ?_;intro b3 H hp;refine Ro.t 1 ?_;refine Ro.p (hp.ld 2 (off := 1) (n := none) (v := (EL (EI .i64)).e x0.fParams) rfl rfl) ?_;refine RunO.app1 (EI .i64) hp (by kernel_rfl) 0 (o := some (b3,0)) (l := []) (rest := []) (m := x0.fParams) rfl (by kernel_rfl) (by kernel_rfl) ((EI .i64).new_fz _ x0.fParams) (by kernel_rfl) (by kernel_rfl) (more_nil hk.p) ?_;intro op H hp;refine Ro.t 1 ?_;refine RunO.st hp (by kernel_rfl) 2 (off := 1) (v := slv 1 false x0.fParams.length op) rfl (by kernel_rfl) (by kernel_rfl) stC_1 ?_;intro H hp;refine Ro.d (mkE [(1,.ptr b1 0 0),(0,.ptr b2 0 0)] 66) ?_;refine Rn.g ?_;refine RunO.bslh1 (EI .u8) (xs := []) hp (by kernel_rfl) (by kernel_rfl) ?_;intro b4 H hp;refine Ro.t 1 ?_;refine Ro.p (hp.ld 3 (off := 3) (n := none) (v := (EL (EI .u8)).e x0.fVars) rfl rfl) ?_;refine RunO.app1 (EI .u8) hp (by kernel_rfl) 0 (o := some (b4,0)) (l := []) (rest := []) (m := x0.fVars) rfl (by kernel_rfl) (by kernel_rfl) ((EI .u8).new_fz _ x0.fVars) (by kernel_rfl) (by kernel_rfl) (more_nil hk.v) ?_;intro ov H hp;refine Ro.t 1 ?_;refine RunO.st hp (by kernel_rfl) 3 (off := 3) (v := slv 1 false x0.fVars.length ov) rfl (by kernel_rfl) (by kernel_rfl) stC_2 ?_;intro H hp;refine Ro.d (mkE [(1,.ptr b1 0 0),(0,.ptr b2 0 0)] 66) ?_;refine Rn.g ?_;refine RunO.bslh1 E_Array (xs := []) hp (by kernel_rfl) (by kernel_rfl) ?_;intro b6 H hp;refine Ro.t 1 ?_;refine Ro.p (hp.ld 4 (off := 4) (n := none) (v := (EL E_Array).e x0.fArrays) rfl rfl) ?_;refine RunO.app1 E_Array hp (by kernel_rfl) 0 (o := some (b6,0)) (l := []) (rest := []) (m := x0.fArrays) rfl (by kernel_rfl) (by kernel_rfl) (E_Array.new_fz _ x0.fArrays) (by kernel_rfl) (by kernel_rfl) (more_nil hk.a) ?_;intro oa H hp;refine Ro.t 1 ?_;refine RunO.st hp (by kernel_rfl) 4 (off := 4) (v := slv 2 true x0.fArrays.length oa) rfl (by kernel_rfl) (by kernel_rfl) stC_3 ?_;intro H hp;refine Ro.d (mkE [(1,.ptr b1 0 0),(0,.ptr b2 0 0)] 66) ?_;refine Rn.g ?_;refine Ro.t 1 ?_;refine Ro.d (mkE [(1,.ptr b1 0 0),(0,.ptr b2 0 0),(0,.nils)] 65) ?_;refine Run.seq ?_;refine bl48 hk _ hp (fun rows ob H e he hok hrows hp => ?_);show Run T (.clr _ i48n35) _ _ _;refine Run.clr ?_;rw [he];refine Rn.g ?_;refine Ro.t 2 ?_;refine RunO.st hp (by kernel_rfl) 4 (off := 5) (v := slv 6 true rows.length ob) rfl (by kernel_rfl) (by kernel_rfl) stC_4 ?_;intro H hp;refine Ro.d (mkE [(1,.ptr b1 0 0),(0,.ptr b2 0 0)] 66) ?_;refine Rn.g ?_;refine Ro.p (hp.ld 4 (off := 0) (n := some 6) (v := .ag (CG x0 op ov oa (slv 6 true rows.length ob))) rfl ld_CG) ?_;refine RunO.st hp (by kernel_rfl) 3 (off := 0) (v := .ag (CG x0 op ov oa (slv 6 true rows.length ob))) rfl (by kernel_rfl) (by kernel_rfl) stC_5 ?_;intro H hp;refine Ro.d (mkE [(2,.ptr b2 0 0)] 66) ?_;refine Run.ret ?_;have hw : ldV H (.ptr b2 0 0) (some 6) = some (.ag (CG x0 op ov oa (slv 6 true rows.length ob))) := hp.ld 3 (off := 0) (n := some 6) rfl ld_CG;refine ⟨_,resW_cells (vs := [.ag (CG x0 op ov oa (slv 6 true rows.length ob))]) (omapc hw rfl),op,ov,oa,ob,rows,rfl,hok,hrows,?_⟩;exact (hp.del 3).del 3
end Go.Eng.Gra
namespace Go.Eng.Gra
open Go Go.Eng
set_option linter.unusedSectionVars false
set_option linter.unusedVariables false
set_option linter.unusedSimpArgs false
set_option maxRecDepth 20000
def trR (t : T_Term) (k : Nat) (p : Int) : T_Term := if (decide (0 ≤ p) && goV t k) = true then setTo t k p else t
def trTmR (o : List Int) (t : T_Term) : Option T_Term := (F49 o t.fTo.a0).bind fun p0 => (F49 o t.fTo.a1).map fun p1 => trR (trR t 0 p0) 1 p1
def nwR (o : List Int) (rows : List RB) (k : Int) : Option RB := (idx rows k).bind fun r => (trTmR o r.t).map fun t => { r with t := t }
theorem trR_get (t : T_Term) (p : Int) : getTo (trR t 0 p) 1 = t.fTo.a1 := by unfold trR; split <;> rfl
def e26K (b1 b2 b7 : Nat) (o : List Int) (was : List (List Int)) (n : Nat) (nb : Option (Nat × Nat)) (x : Int) : List V := (mkE [(1,.ptr b1 0 0),(0,.ptr b2 0 0),(0,Zl (EI .i64) o),(0,Zl (EL (EI .i64)) was),(0,slv 6 true n nb),(0,.int .i64 x),(0,.ptr b7 0 0)] 158)
def e26L (b1 b2 b7 : Nat) (o : List Int) (was : List (List Int)) (n : Nat) (nb : Option (Nat × Nat)) (x : Int) (k : Nat) : List V := (mkE [(1,.ptr b1 0 0),(0,.ptr b2 0 0),(0,Zl (EI .i64) o),(0,Zl (EL (EI .i64)) was),(0,slv 6 true n nb),(0,.int .i64 x),(0,.ptr b7 0 0),(0,.int .i64 (k : Int))] 157)
def e26M (b1 b2 b7 : Nat) (o : List Int) (was : List (List Int)) (n : Nat) (nb : Option (Nat × Nat)) (x : Int) (k : Nat) (p : Int) : List V := (mkE [(1,.ptr b1 0 0),(0,.ptr b2 0 0),(0,Zl (EI .i64) o),(0,Zl (EL (EI .i64)) was),(0,slv 6 true n nb),(0,.int .i64 x),(0,.ptr b7 0 0),(0,.int .i64 (k : Int)),(0,.int .i64 p)] 156)
def e26N (b1 b2 b7 : Nat) (o : List Int) (was : List (List Int)) (n : Nat) (nb : Option (Nat × Nat)) (x : Int) (k : Nat) (p : Int) (g : Bool) : List V := (mkE [(1,.ptr b1 0 0),(0,.ptr b2 0 0),(0,Zl (EI .i64) o),(0,Zl (EL (EI .i64)) was),(0,slv 6 true n nb),(0,.int .i64 x),(0,.ptr b7 0 0),(0,.int .i64 (k : Int)),(0,.int .i64 p),(55,.bool g)] 100)
abbrev cl26 : List Nat := [9,41,42,43,44,45,46,47,48,49,50,51,52,53,54,55,56,57,58,59,60,61,62,63,64,65,66,67,68,69,70]
section
variable {b1 b2 b7 : Nat} {o : List Int} {was : List (List Int)} {n : Nat} {nb : Option (Nat × Nat)} {x : Int} {t : T_Term} {w : V} {H : Heap} {L : List Ob}
theorem goes26 (hp : HP H ((some (b7,0),w :: E_Term.c t) :: L)) (k : Nat) (hk : k = 0 ∨ k = 1) (p : Int) (Q : X → List V → Heap → Prop)
    (h : Run T i26n17 (e26N b1 b2 b7 o was n nb x k p (decide (0 ≤ p) && goV t k)) H Q) : Run T i26n18 (e26M b1 b2 b7 o was n nb x k p) H Q := by
  have hld := hp.ld 0 (off := 1) (n := none) (v := .int .u8 t.fKind) rfl rfl;refine Rn.g ?_;refine Ro.t 1 ?_;refine Ro.p (u := .bool (decide (0 ≤ p))) (v := some (.bool (decide (0 ≤ p)))) rfl ?_;cases hb : decide (0 ≤ p)
  · rw [hb,Bool.false_and] at h;refine Ro.t 16 ?_;exact Ro.d (e26N b1 b2 b7 o was n nb x k p false) h
  rw [hb,Bool.true_and] at h;refine Ro.t 3 ?_;refine Ro.p hld ?_;cases h2 : (t.fKind == 2)
  · refine Ro.p (bool_of h2) ?_;refine Ro.t 3 ?_;refine Ro.p hld ?_;cases h1 : (t.fKind == 1)
    · have hg : goV t k = false := by unfold goV; rw [h2,h1]; rfl
      rw [hg] at h;refine Ro.p (bool_of h1) ?_;refine Ro.t 6 ?_;exact Ro.d (e26N b1 b2 b7 o was n nb x k p false) h
    · refine Ro.p (bool_of h1) ?_;rcases hk with rfl | rfl
      · have hg : goV t 0 = true := by unfold goV; rw [h2,h1]; rfl
        rw [hg] at h;refine Ro.t 6 ?_;exact Ro.d (e26N b1 b2 b7 o was n nb x 0 p true) h
      · have hg : goV t 1 = false := by unfold goV; rw [h2,h1]; rfl
        rw [hg] at h;refine Ro.t 6 ?_;exact Ro.d (e26N b1 b2 b7 o was n nb x 1 p false) h
  · have hg : goV t k = true := by unfold goV; rw [h2]; rfl
    rw [hg] at h;refine Ro.p (bool_of h2) ?_;refine Ro.t 11 ?_;exact Ro.d (e26N b1 b2 b7 o was n nb x k p true) h
theorem round26 (hp : HP H ((some (b7,0),w :: E_Term.c t) :: L)) (k : Nat) (hk : k = 0 ∨ k = 1) {to p : Int} (hto : getTo t k = to) (hpl : F49 o to = some p) :
    Run T i26n19 (e26L b1 b2 b7 o was n nb x k) H (fun X e h => X = .nrm ∧ clrEnv cl26 e = e26L b1 b2 b7 o was n nb x k ∧ HP h ((some (b7,0),w :: E_Term.c (trR t k p)) :: L)) := by
  have hpos : idxpV (.ptr b7 0 3) (.int .i64 (k : Int)) 2 1 none = some (.ptr b7 0 (3 + k)) := by rcases hk with rfl | rfl <;> kernel_rfl
  have hld : ldV H (.ptr b7 0 (3 + k)) none = some (.int .i64 to) := by
    rw [← hto];rcases hk with rfl | rfl
    · exact hp.ld 0 (off := 3) (n := none) (v := .int .i64 (getTo t 0)) rfl rfl
    · exact hp.ld 0 (off := 4) (n := none) (v := .int .i64 (getTo t 1)) rfl rfl
  refine Rn.g ?_;refine Ro.t 4 ?_;refine Ro.p hpos ?_;refine Ro.p hld ?_;refine RunO.c2 (by kernel_rfl) (by kernel_rfl) (by kernel_rfl) (c49 hpl false) ?_;refine Ro.t 1 ?_;refine Ro.d (e26M b1 b2 b7 o was n nb x k p) ?_;refine goes26 hp k hk p _ ?_;unfold trR;cases hg : (decide (0 ≤ p) && goV t k)
  · refine Run.condF (by kernel_rfl) ?_;exact Run.skip ⟨rfl,by kernel_rfl,hp⟩
  · refine Run.condT (by kernel_rfl) ?_;refine Run.rgn ?_;refine Ro.t 4 ?_;refine Ro.p hpos ?_;refine RunO.st hp (by kernel_rfl) 0 (off := 3 + k) (v := .int .i64 p) (cs' := w :: E_Term.c (setTo t k p)) rfl (by kernel_rfl) (by kernel_rfl) (by rcases hk with rfl | rfl <;> rfl) ?_;intro H hp;exact RunO.nil ⟨rfl,by kernel_rfl,hp⟩
theorem two26 {t2 : T_Term} (Q : X → List V → Heap → Prop) (hp : HP H ((some (b7,0),w :: E_Term.c t) :: L)) (h : trTmR o t = some t2)
    (hq : ∀ (H' : Heap) (e' : List V),clrEnv [8,9,37,38,39,40,41,42,43,44,45,46,47,48,49,50,51,52,53,54,55,56,57,58,59,60,61,62,63,64,65,66,67,68,69,70] e' = e26K b1 b2 b7 o was n nb x → HP H' ((some (b7,0),w :: E_Term.c t2) :: L) → Q .nrm e' H') :
    Run T i26n26 (e26K b1 b2 b7 o was n nb x) H Q := by
  unfold trTmR at h;obtain ⟨p0,h0,h⟩ := bind_some h;obtain ⟨p1,h1,rfl⟩ := Option.map_eq_some_iff.1 h;refine Rn.g ?_;refine Ro.t 1 ?_;refine Ro.d (e26L b1 b2 b7 o was n nb x 0) ?_;refine Run.block ?_;refine Run.loopc (fun m e h => ∃ (k : Nat) (tk : T_Term),(k = 0 ∧ m = 2 ∧ tk = t ∨ k = 1 ∧ m = 1 ∧ tk = trR t 0 p0 ∨ k = 2 ∧ m = 0 ∧ tk = trR (trR t 0 p0) 1 p1) ∧ HP h ((some (b7,0),w :: E_Term.c tk) :: L) ∧ e = e26L b1 b2 b7 o was n nb x k) 2
    ⟨0,t,.inl ⟨rfl,rfl,rfl⟩,hp,by kernel_rfl⟩ ?_
  rintro m e H1 ⟨k,tk,hk,hp1,rfl⟩;refine Run.seq ?_;refine Rn.g ?_;refine Ro.t 2 ?_;have body : ∀ (k : Nat) (hk : k = 0 ∨ k = 1) (to p : Int) (hto : getTo tk k = to) (hpl : F49 o to = some p) (Q' : X → List V → Heap → Prop),(∀ H' e',clrEnv cl26 e' = e26L b1 b2 b7 o was n nb x k → HP H' ((some (b7,0),w :: E_Term.c (trR tk k p)) :: L) → Run T (.clr cl26 (.rgn i26r21)) e' H' Q') → Run T i26n22 (e26L b1 b2 b7 o was n nb x k) H1 Q' := by
    intro k hk to p hto hpl Q' hh;refine Run.seq (Run.block ?_);refine (round26 hp1 k hk hto hpl).mono ?_;rintro X e H2 ⟨rfl,he,hp2⟩;exact hh H2 e he hp2
  rcases hk with ⟨rfl,rfl,rfl⟩ | ⟨rfl,rfl,rfl⟩ | ⟨rfl,rfl,rfl⟩
  · refine Ro.d (mkE [(1,.ptr b1 0 0),(0,.ptr b2 0 0),(0,Zl (EI .i64) o),(0,Zl (EL (EI .i64)) was),(0,slv 6 true n nb),(0,.int .i64 x),(0,.ptr b7 0 0),(0,.int .i64 0),(29,.bool true)] 127) ?_;refine Run.condT (by kernel_rfl) (Run.skip ?_);refine Rn.c (e26L b1 b2 b7 o was n nb x 0) ?_;refine body 0 (.inl rfl) _ p0 rfl h0 _ (fun H2 e he hp2 => ?_);refine Run.clr ?_;rw [he];exact Run.rgn (Ro.t 3 (RunO.nil ⟨1,by omega,1,_,.inr (.inl ⟨rfl,rfl,rfl⟩),hp2,by kernel_rfl⟩))
  · refine Ro.d (mkE [(1,.ptr b1 0 0),(0,.ptr b2 0 0),(0,Zl (EI .i64) o),(0,Zl (EL (EI .i64)) was),(0,slv 6 true n nb),(0,.int .i64 x),(0,.ptr b7 0 0),(0,.int .i64 1),(29,.bool true)] 127) ?_;refine Run.condT (by kernel_rfl) (Run.skip ?_);refine Rn.c (e26L b1 b2 b7 o was n nb x 1) ?_;refine body 1 (.inr rfl) _ p1 (trR_get t p0) h1 _ (fun H2 e he hp2 => ?_);refine Run.clr ?_;rw [he];exact Run.rgn (Ro.t 3 (RunO.nil ⟨0,by omega,2,_,.inr (.inr ⟨rfl,rfl,rfl⟩),hp2,by kernel_rfl⟩))
  · refine Ro.d (mkE [(1,.ptr b1 0 0),(0,.ptr b2 0 0),(0,Zl (EI .i64) o),(0,Zl (EL (EI .i64)) was),(0,slv 6 true n nb),(0,.int .i64 x),(0,.ptr b7 0 0),(0,.int .i64 2),(29,.bool false)] 127) ?_;refine Run.condF (by kernel_rfl) (Run.exit ?_);exact hq H1 _ (by kernel_rfl) hp1
end
end Go.Eng.Gra
