/- Functions of this seat, run on unknown values by the rules of the small machine (no condition beyond those stated). -/
import Derived.Test.YtfkakbipedafiaaDoorGtrTyUp
import Derived.Test.YtfkakbipedafiaaDoorGtrIr
import Derived.Test.YtfkakbipedafiaaDoorEngSUp
namespace Go.Eng.Gra
open Go Go.Eng
set_option linter.unusedSectionVars false
set_option linter.unusedVariables false
set_option linter.unusedSimpArgs false
set_option maxRecDepth 20000
abbrev caps35 (bm bw bo : Nat) (G : V) : List V := [.ptr bm 0 0,.fp G,.ptr bw 0 0,.ptr bo 0 0]
abbrev obs (bm bw bo : Nat) (G : V) (om : Option (Nat × Nat)) (met : List Bool) (oo : Option (Nat × Nat)) (out : List Int) (L : List Ob) : List Ob :=
  (some (bm,0),[slv 1 false met.length om]) :: (om,met.flatMap EB.c ++ []) :: (some (bw,0),[.fn 35 (caps35 bm bw bo G)]) :: (some (bo,0),[slv 1 false out.length oo]) :: (oo,out.flatMap (EI .i64).c ++ []) :: L
abbrev WS := List Bool × List Int
def goV (t : T_Term) (k : Nat) : Bool := t.fKind == 2 || (t.fKind == 1 && k == 0)
def stepW (rec : Int → WS → Option WS) (t : T_Term) (k : Nat) (to : Int) (s : WS) : Option WS :=
  if (goV t k && (decide (0 ≤ to ∧ to < (s.1.length : Int)) && !(s.1.getD to.toNat false))) = true then rec to s else some s
def walkV (bs : List T_Block) : Nat → Int → WS → Option WS
  | 0,_,_ => none
  | n + 1,i,s => (upd s.1 i true).bind fun met1 => (idx bs i).bind fun b =>
    (stepW (walkV bs n) b.fTerm 0 b.fTerm.fTo.a0 (met1,s.2)).bind fun s1 =>
    (stepW (walkV bs n) b.fTerm 1 b.fTerm.fTo.a1 s1).bind fun s2 =>
    (more 8 s2.2 [i]).map fun o => (s2.1,o)
def RecOk (bm bw bo : Nat) (G : V) (om : Option (Nat × Nat)) (rec : Int → WS → Option WS) : Prop :=
  ∀ (to : Int) (s s' : WS),rec to s = some s' → ∀ (H : Heap) (oo : Option (Nat × Nat)) (L : List Ob),HP H (obs bm bw bo G om s.1 oo s.2 L) →
    Fn T 35 (.int .i64 to :: caps35 bm bw bo G) H (fun v h => ∃ oo',HP h (obs bm bw bo G om s'.1 oo' s'.2 L))
def e35 (bm bw bo bt : Nat) (i : Int) (a0 a1 : Int) (k : Nat) : List V := mkE [(0,.int .i64 i),(0,.ptr bm 0 0),(1,.ptr bw 0 0),(0,.ptr bo 0 0),(1,.ptr bt 0 0),(13,.ag [.int .i64 a0,.int .i64 a1]),(0,.int .i64 (k : Int))] 37
def e35b (bm bw bo bt : Nat) (i : Int) (a0 a1 : Int) (k : Nat) (to : Int) (g : Bool) : List V := mkE [(0,.int .i64 i),(0,.ptr bm 0 0),(1,.ptr bw 0 0),(0,.ptr bo 0 0),(1,.ptr bt 0 0),(1,.int .i64 to),(0,.bool g),(10,.ag [.int .i64 a0,.int .i64 a1]),(0,.int .i64 (k : Int))] 37
abbrev tbo (bt : Nat) (t : T_Term) : Ob := (some (bt,0),E_Term.c t)
abbrev cl35 : List Nat := [7,8,9,23,24,25,26,27,28,29,30,31,32,33,34,35,36,37,38,39,40,41,42,43,44,45,46,47,48,49,50,51,52,53]
theorem goes35 {bm bw bo bt : Nat} {G : V} {om oo : Option (Nat × Nat)} {s : WS} {L : List Ob} {H : Heap} {t : T_Term} (hp : HP H (obs bm bw bo G om s.1 oo s.2 (tbo bt t :: L))) (k : Nat) (hk : k = 0 ∨ k = 1) (i to : Int) (Q : X → List V → Heap → Prop)
    (h : Run T i35n10 (e35b bm bw bo bt i t.fTo.a0 t.fTo.a1 k to (goV t k)) H Q) : Run T i35n11 (mkE [(0,.int .i64 i),(0,.ptr bm 0 0),(1,.ptr bw 0 0),(0,.ptr bo 0 0),(1,.ptr bt 0 0),(0,.int .i64 (k : Int)),(0,.int .i64 to),(11,.ag [.int .i64 t.fTo.a0,.int .i64 t.fTo.a1]),(0,.int .i64 (k : Int))] 37) H Q := by
  have hld := hp.ld 5 (off := 0) (n := none) (v := .int .u8 t.fKind) rfl rfl;refine Rn.g ?_;refine Ro.t 1 ?_;refine Ro.p hld ?_;cases h2 : (t.fKind == 2)
  · refine Ro.p (bool_of h2) ?_;refine Ro.t 2 ?_;refine Ro.p hld ?_;cases h1 : (t.fKind == 1)
    · have hg : goV t k = false := by unfold goV; rw [h2,h1]; rfl
      rw [hg] at h;refine Ro.p (bool_of h1) ?_;refine Ro.t 6 ?_;exact Ro.d (e35b bm bw bo bt i t.fTo.a0 t.fTo.a1 k to false) h
    · refine Ro.p (bool_of h1) ?_;rcases hk with rfl | rfl
      · have hg : goV t 0 = true := by unfold goV; rw [h2,h1]; rfl
        rw [hg] at h;refine Ro.t 6 ?_;exact Ro.d (e35b bm bw bo bt i t.fTo.a0 t.fTo.a1 0 to true) h
      · have hg : goV t 1 = false := by unfold goV; rw [h2,h1]; rfl
        rw [hg] at h;refine Ro.t 6 ?_;exact Ro.d (e35b bm bw bo bt i t.fTo.a0 t.fTo.a1 1 to false) h
  · have hg : goV t k = true := by unfold goV; rw [h2]; rfl
    rw [hg] at h;refine Ro.p (bool_of h2) ?_;refine Ro.t 10 ?_;exact Ro.d (e35b bm bw bo bt i t.fTo.a0 t.fTo.a1 k to true) h
theorem step35 {bm bw bo bt : Nat} {G : V} {om oo : Option (Nat × Nat)} {s s' : WS} {L : List Ob} {H : Heap} {t : T_Term} (rec : Int → WS → Option WS) (hrec : RecOk bm bw bo G om rec) (hp : HP H (obs bm bw bo G om s.1 oo s.2 (tbo bt t :: L))) (k : Nat) (i to : Int)
    (h : stepW rec t k to s = some s') :
    Run T i35n10 (e35b bm bw bo bt i t.fTo.a0 t.fTo.a1 k to (goV t k)) H (fun x e h => x = .nrm ∧ clrEnv cl35 e = mkE [(0,.int .i64 i),(0,.ptr bm 0 0),(1,.ptr bw 0 0),(0,.ptr bo 0 0),(1,.ptr bt 0 0),(13,.ag [.int .i64 t.fTo.a0,.int .i64 t.fTo.a1]),(0,.int .i64 (k : Int))] 37 ∧
      ∃ oo',HP h (obs bm bw bo G om s'.1 oo' s'.2 (tbo bt t :: L))) := by
  unfold stepW at h;have hm := hp.ld 0 (off := 0) (n := none) (v := slv 1 false s.1.length om) rfl rfl;refine Rn.g ?_;cases hg : goV t k
  · rw [hg] at h;simp only [Bool.false_and,Bool.false_eq_true,if_false] at h;cases h;refine Ro.t 14 ?_;refine Ro.d (mkE [(0,.int .i64 i),(0,.ptr bm 0 0),(1,.ptr bw 0 0),(0,.ptr bo 0 0),(1,.ptr bt 0 0),(1,.int .i64 to),(11,.ag [.int .i64 t.fTo.a0,.int .i64 t.fTo.a1]),(0,.int .i64 (k : Int)),(28,.bool false)] 8) ?_;refine Run.condF (by kernel_rfl) ?_;exact Run.skip ⟨rfl,by kernel_rfl,oo,hp⟩
  rw [hg] at h;refine Ro.t 3 ?_;refine Ro.p hm ?_;refine Ro.p (own_len EB hp 1 rfl) ?_;cases hb : decide (0 ≤ to ∧ to < (s.1.length : Int))
  · rw [hb] at h;simp only [Bool.false_and,Bool.and_false,Bool.false_eq_true,if_false] at h;cases h;refine RunO.c1 (by kernel_rfl) (by kernel_rfl) (c34 (x0 := to) (x1 := (s.1.length : Int)) (r := false) (by rw [in34,hb]) _) ?_;refine Ro.t 8 ?_;refine Ro.d (mkE [(0,.int .i64 i),(0,.ptr bm 0 0),(1,.ptr bw 0 0),(0,.ptr bo 0 0),(1,.ptr bt 0 0),(1,.int .i64 to),(11,.ag [.int .i64 t.fTo.a0,.int .i64 t.fTo.a1]),(0,.int .i64 (k : Int)),(28,.bool false)] 8) ?_;refine Run.condF (by kernel_rfl) ?_;exact Run.skip ⟨rfl,by kernel_rfl,oo,hp⟩
  rw [hb] at h;have hb' := of_decide_eq_true hb;have hix : idx s.1 to = some (s.1.getD to.toNat false) := by
    unfold idx; rw [if_pos hb'.1]; simp [List.getD,show to.toNat < s.1.length by omega]
  refine RunO.c1 (by kernel_rfl) (by kernel_rfl) (c34 (x0 := to) (x1 := (s.1.length : Int)) (r := true) (by rw [in34,hb]) _) ?_;refine Ro.t 2 ?_;refine Ro.p hm ?_;refine Ro.t 1 ?_;obtain ⟨b,g,hom,hia⟩ := own_idx EB hp 1 rfl hix;subst hom;refine Ro.p (hia .i64) ?_;have hlm := own_ld EB hp 1 rfl hix (off := 0) (n := none) (v := .bool (s.1.getD to.toNat false)) rfl;refine Ro.p hlm ?_
  generalize s.1.getD to.toNat false = m at h
  cases m
  · simp only [Bool.not_false,Bool.and_self,if_true] at h;refine Ro.t 2 ?_;refine Ro.d (mkE [(0,.int .i64 i),(0,.ptr bm 0 0),(1,.ptr bw 0 0),(0,.ptr bo 0 0),(1,.ptr bt 0 0),(1,.int .i64 to),(11,.ag [.int .i64 t.fTo.a0,.int .i64 t.fTo.a1]),(0,.int .i64 (k : Int)),(28,.bool true)] 8) ?_;refine Run.condT (by kernel_rfl) ?_;refine Run.rgn ?_;refine Ro.p (hp.ld 2 (off := 0) (n := none) (v := .fn 35 (caps35 bm bw bo G)) rfl rfl) ?_;refine Ro.t 1 ?_;refine RunO.h1 (n := 35) (caps := caps35 bm bw bo G) (us := .int .i64 to :: caps35 bm bw bo G) (by kernel_rfl) (by kernel_rfl) (by kernel_rfl) ?_;refine (hrec to s s' h H oo (tbo bt t :: L) hp).mono ?_;rintro v h' ⟨oo',hp'⟩;exact RunO.nil ⟨rfl,by kernel_rfl,oo',hp'⟩
  · simp only [Bool.not_true,Bool.and_false,Bool.false_eq_true,if_false] at h;cases h;refine Ro.t 2 ?_;refine Ro.d (mkE [(0,.int .i64 i),(0,.ptr bm 0 0),(1,.ptr bw 0 0),(0,.ptr bo 0 0),(1,.ptr bt 0 0),(1,.int .i64 to),(11,.ag [.int .i64 t.fTo.a0,.int .i64 t.fTo.a1]),(0,.int .i64 (k : Int)),(28,.bool false)] 8) ?_;refine Run.condF (by kernel_rfl) ?_;exact Run.skip ⟨rfl,by kernel_rfl,oo,hp⟩
theorem upd_in {α : Type} {l l' : List α} {i : Int} {a : α} (h : upd l i a = some l') : ∃ x,idx l i = some x := by
  unfold upd at h
  split at h
  · rename_i hc
    exact ⟨l[i.toNat]'(by omega),by unfold idx; rw [if_pos hc.1]; exact List.getElem?_eq_getElem (by omega)⟩
  · cases h
theorem walk35 (x0 : T_Graph) (bm bw bo : Nat) (om : Option (Nat × Nat)) : ∀ n,RecOk bm bw bo (E_Graph.e x0) om (walkV x0.fBlocks n) := by
  intro n
  induction n with
  | zero => intro to s s' h; cases h
  | succ n ih =>
    intro i s s' h H oo L hp;unfold walkV at h;obtain ⟨met1,hm1,h⟩ := bind_some h;obtain ⟨b,hb,h⟩ := bind_some h;obtain ⟨s1,h1,h⟩ := bind_some h;obtain ⟨s2,h2,h⟩ := bind_some h;obtain ⟨o,hmore,rfl⟩ := Option.map_eq_some_iff.1 h;refine Fn.enterE t35 (e0 := mkE [(0,.int .i64 i),(0,.ptr bm 0 0),(0,.fp (E_Graph.e x0)),(0,.ptr bw 0 0),(0,.ptr bo 0 0)] 54) (by kernel_rfl) ?_;show Run T (.clr [] i35n24) _ _ (finE none [] _);refine Rn.k (mkE [(0,.int .i64 i),(0,.ptr bm 0 0),(0,.fp (E_Graph.e x0)),(0,.ptr bw 0 0),(0,.ptr bo 0 0)] 54) ?_;refine Rn.g ?_;refine Ro.p (hp.ld 0 (off := 0) (n := none) (v := slv 1 false s.1.length om) rfl rfl) ?_;refine Ro.t 1 ?_;obtain ⟨x,hix⟩ := upd_in hm1;obtain ⟨c,g,hom,hia⟩ := own_idx EB hp 1 rfl hix;subst hom;refine Ro.p (hia .i64) ?_;refine RunO.st hp (by kernel_rfl) 1 rfl (by kernel_rfl) (by kernel_rfl) (own_st EB (a := true) hm1) ?_;intro H hp;have hl := upd_len hm1;have hp : HP H (obs bm bw bo (E_Graph.e x0) (some (c,g)) met1 oo s.2 L) := by
      show HP H ((some (bm,0),[slv 1 false met1.length (some (c,g))]) :: _);rw [hl]; exact hp
    refine Ro.d (mkE [(0,.int .i64 i),(0,.ptr bm 0 0),(0,.fp (E_Graph.e x0)),(0,.ptr bw 0 0),(0,.ptr bo 0 0)] 54) ?_;refine Rn.g ?_;refine Ro.t 3 ?_;refine Ro.p (idx_fz E_Block .i64 hb) ?_;refine Ro.t 2 ?_;refine RunO.alloc hp (by kernel_rfl) ?_;intro bt H hp;refine RunO.st hp (by kernel_rfl) 0 (off := 0) (v := E_Term.e b.fTerm) (cs' := E_Term.c b.fTerm) rfl (by kernel_rfl) (by kernel_rfl) (by kernel_rfl) ?_;intro H hp;have hp := hp.pick 5 rfl;have hp := hp.pick 5 rfl;have hp := hp.pick 5 rfl;have hp := hp.pick 5 rfl;have hp := hp.pick 5 rfl;have hp : HP H (obs bm bw bo (E_Graph.e x0) (some (c,g)) met1 oo s.2 (tbo bt b.fTerm :: L)) := hp;refine Ro.d (mkE [(0,.int .i64 i),(0,.ptr bm 0 0),(1,.ptr bw 0 0),(0,.ptr bo 0 0),(1,.ptr bt 0 0)] 52) ?_;refine Run.seq ?_;refine Rn.g ?_;refine Ro.t 1 ?_;refine Ro.p (hp.ld 5 (off := 2) (n := some 2) (v := .ag [.int .i64 b.fTerm.fTo.a0,.int .i64 b.fTerm.fTo.a1]) rfl rfl) ?_;refine Ro.t 1 ?_;refine Ro.d (e35 bm bw bo bt i b.fTerm.fTo.a0 b.fTerm.fTo.a1 0) ?_;refine Run.block ?_;refine Run.loop1 ?_;refine Rn.k (e35 bm bw bo bt i b.fTerm.fTo.a0 b.fTerm.fTo.a1 0) ?_;refine Rn.g ?_;refine Ro.t 1 ?_;refine Ro.d (mkE [(0,.int .i64 i),(0,.ptr bm 0 0),(1,.ptr bw 0 0),(0,.ptr bo 0 0),(1,.ptr bt 0 0),(13,.ag [.int .i64 b.fTerm.fTo.a0,.int .i64 b.fTerm.fTo.a1]),(0,.int .i64 0),(0,.bool true)] 36) ?_;refine Run.seq ?_;refine Run.condT (by kernel_rfl) ?_;refine Run.skip ?_;refine Rn.c (e35 bm bw bo bt i b.fTerm.fTo.a0 b.fTerm.fTo.a1 0) ?_;refine Run.seq ?_;refine Run.block ?_;refine Rn.g ?_;refine Ro.t 4 ?_;refine Ro.d (mkE [(0,.int .i64 i),(0,.ptr bm 0 0),(1,.ptr bw 0 0),(0,.ptr bo 0 0),(1,.ptr bt 0 0),(0,.int .i64 ((0 : Nat) : Int)),(0,.int .i64 b.fTerm.fTo.a0),(11,.ag [.int .i64 b.fTerm.fTo.a0,.int .i64 b.fTerm.fTo.a1]),(0,.int .i64 ((0 : Nat) : Int))] 37) ?_;refine goes35 (s := (met1,s.2)) hp 0 (.inl rfl) i b.fTerm.fTo.a0 _ ?_;refine (step35 (s := (met1,s.2)) _ ih hp 0 i b.fTerm.fTo.a0 h1).mono ?_;rintro X e H ⟨rfl,he,oo1,hp⟩;show Run T (.clr cl35 (.rgn i35r14)) _ _ _;refine Run.clr ?_;rw [he];refine Run.rgn (Ro.t 2 (RunO.nil ?_));show Run T (.loop _) _ _ _;refine Run.loop1 ?_;refine Rn.k (e35 bm bw bo bt i b.fTerm.fTo.a0 b.fTerm.fTo.a1 1) ?_;refine Rn.g ?_;refine Ro.t 1 ?_;refine Ro.d (mkE [(0,.int .i64 i),(0,.ptr bm 0 0),(1,.ptr bw 0 0),(0,.ptr bo 0 0),(1,.ptr bt 0 0),(13,.ag [.int .i64 b.fTerm.fTo.a0,.int .i64 b.fTerm.fTo.a1]),(0,.int .i64 1),(0,.bool true)] 36) ?_;refine Run.seq ?_;refine Run.condT (by kernel_rfl) ?_;refine Run.skip ?_;refine Rn.c (e35 bm bw bo bt i b.fTerm.fTo.a0 b.fTerm.fTo.a1 1) ?_;refine Run.seq ?_;refine Run.block ?_;refine Rn.g ?_;refine Ro.t 4 ?_;refine Ro.d (mkE [(0,.int .i64 i),(0,.ptr bm 0 0),(1,.ptr bw 0 0),(0,.ptr bo 0 0),(1,.ptr bt 0 0),(0,.int .i64 ((1 : Nat) : Int)),(0,.int .i64 b.fTerm.fTo.a1),(11,.ag [.int .i64 b.fTerm.fTo.a0,.int .i64 b.fTerm.fTo.a1]),(0,.int .i64 ((1 : Nat) : Int))] 37) ?_;refine goes35 (s := s1) hp 1 (.inr rfl) i b.fTerm.fTo.a1 _ ?_;refine (step35 (s := s1) _ ih hp 1 i b.fTerm.fTo.a1 h2).mono ?_;rintro X e H ⟨rfl,he,oo2,hp⟩;show Run T (.clr cl35 (.rgn i35r14)) _ _ _;refine Run.clr ?_;rw [he];refine Run.rgn (Ro.t 2 (RunO.nil ?_));show Run T (.loop _) _ _ _;refine Run.loop1 ?_;refine Rn.k (e35 bm bw bo bt i b.fTerm.fTo.a0 b.fTerm.fTo.a1 2) ?_;refine Rn.g ?_;refine Ro.t 1 ?_;refine Ro.d (mkE [(0,.int .i64 i),(0,.ptr bm 0 0),(1,.ptr bw 0 0),(0,.ptr bo 0 0),(1,.ptr bt 0 0),(13,.ag [.int .i64 b.fTerm.fTo.a0,.int .i64 b.fTerm.fTo.a1]),(0,.int .i64 2),(0,.bool false)] 36) ?_;refine Run.seq ?_;refine Run.condF (by kernel_rfl) ?_;refine Run.exit ?_;show Run T (.clr _ (.rgn i35r21)) _ _ _;refine Rn.k (mkE [(0,.int .i64 i),(3,.ptr bo 0 0)] 54) ?_;refine Run.rgn ?_;refine Ro.p (hp.ld 3 (off := 0) (n := none) (v := slv 1 false s2.2.length oo2) rfl rfl) ?_;refine Ro.t 2 ?_;refine RunO.app1 (EI .i64) hp (by kernel_rfl) 4 (o := oo2) (l := s2.2) (rest := []) (m := [i]) rfl (by kernel_rfl) (by kernel_rfl) ((EI .i64).new_fz _ [i]) (by kernel_rfl) (by kernel_rfl) hmore ?_;intro o' H hp;refine RunO.st hp (by kernel_rfl) 3 (off := 0) (v := slv 1 false o.length o') (cs' := [slv 1 false o.length o']) rfl (by kernel_rfl) (by kernel_rfl) (by cases o' <;> rfl) ?_;intro H hp;refine RunO.nil ?_;have hp := hp.pick 5 rfl;have hp := hp.del 0;exact ⟨.tup [],by kernel_rfl,o',hp⟩
end Go.Eng.Gra
namespace Go.Eng.Gra
open Go Go.Eng
set_option linter.unusedSectionVars false
set_option linter.unusedVariables false
set_option linter.unusedSimpArgs false
set_option maxRecDepth 20000
abbrev Q36 (o1 : Option (Nat × Nat)) (L : List Ob) (r : (List Int)) : V → Heap → Prop := fun v h => ∃ (q90 : List V),v = .tup [] ∧ HP h ((o1,List.flatMap (EI .i64).c r ++ q90) :: L)
abbrev RR36 (o1 : Option (Nat × Nat)) (L : List Ob) (r : (List Int)) : List V → Heap → Prop := fun e h => endR none [] (Q36 o1 L r) e h
abbrev I36_1 (o1 : Option (Nat × Nat)) (L : List Ob) : ((List Int) × Int × Int) → List V → Heap → Prop := fun s e h => ∃ q109 : List V,e = (mkE [(0,(slv (EI .i64).z (EI .i64).ag (List.length s.1) o1)),(1,(i6 s.2.1)),(0,(i6 s.2.2))] 24) ∧ HP h ((o1,List.flatMap (EI .i64).c s.1 ++ q109) :: L)
abbrev J36_1 (o1 : Option (Nat × Nat)) (L : List Ob) : ((List Int)) → Nat → List V → Heap → Prop := fun a i e h => i = 0 ∧ ∃ q146 : List V,True ∧ HP h ((o1,List.flatMap (EI .i64).c a ++ q146) :: L)
def F36_1_b (l107 : (List Int)) (y110 : Int) (y111 : Int) : Option (Stp ((List Int) × Int × Int) (List Int) ((List Int))) :=
  if (decide (y110 < y111)) then
    (idx l107 y111).bind fun y149 =>
    (idx l107 y110).bind fun y155 =>
    (idx l107 y110).bind fun y161 =>
    (upd l107 y110 y149).bind fun y167 =>
    (idx y167 y111).bind fun y170 =>
    (upd y167 y111 y155).bind fun y176 =>
    some (.next (y176,(IntKind.i64.wrap (y110 + (1 : Int))),(IntKind.i64.wrap (y111 - (1 : Int)))))
  else
    some (.go (l107))
theorem w36_1_b {l107 : (List Int)} {y110 : Int} {y111 : Int} {t : (Stp ((List Int) × Int × Int) (List Int) ((List Int)))} (h : F36_1_b l107 y110 y111 = some t) {o1 : Option (Nat × Nat)} {q109 : List V} {H : Heap} {L : List Ob} (hp : HP H ((o1,List.flatMap (EI .i64).c l107 ++ q109) :: L)) :
    Run T i36n8 (mkE [(0,(slv (EI .i64).z (EI .i64).ag (List.length l107) o1)),(1,(i6 y110)),(0,(i6 y111))] 24) H (stp [7,8,9,10,11,12,13,14,15,16,17,18,19,20,21,22,23,24,25,26,27] (I36_1 o1 L) (RR36 o1 L) (J36_1 o1 L) t) := by
  unfold F36_1_b at h;refine Run.seq ?_;refine Rn.g ?_;refine Ro.t 3 ?_;refine Ro.d (mkE [(0,(slv (EI .i64).z (EI .i64).ag (List.length l107) o1)),(1,(i6 y110)),(0,(i6 y111)),(5,(V.bool (decide (y110 < y111))))] 18) ?_;rcases tf (decide (y110 < y111)) with h148 | h148
  · rw [ite_t h148] at h; refine Rn.t h148 ?_;refine Run.skip ?_;refine Rn.c (mkE [(0,(slv (EI .i64).z (EI .i64).ag (List.length l107) o1)),(1,(i6 y110)),(0,(i6 y111))] 24) ?_;refine Run.seq ?_;refine Run.block ?_;refine Run.rgn ?_;refine Ro.t 6 ?_;obtain ⟨y149,h150,h⟩ := bind_some h;obtain ⟨b151,g152,h153,h154⟩ := own_idx (EI .i64) hp 0 rfl h150;subst h153;refine Ro.p (h154 .i64) ?_;refine Ro.p (own_ld (EI .i64) hp 0 rfl h150 (off := 0) (n := none) (v := (i6 y149)) (by kernel_rfl)) ?_;refine Ro.t 2 ?_;obtain ⟨y155,h156,h⟩ := bind_some h;obtain ⟨b157,g158,h159,h160⟩ := own_idx (EI .i64) hp 0 rfl h156;cases h159;refine Ro.p (h160 .i64) ?_;refine Ro.p (own_ld (EI .i64) hp 0 rfl h156 (off := 0) (n := none) (v := (i6 y155)) (by kernel_rfl)) ?_;obtain ⟨y161,h162,h⟩ := bind_some h;obtain ⟨b163,g164,h165,h166⟩ := own_idx (EI .i64) hp 0 rfl h162;cases h165;refine Ro.p (h166 .i64) ?_;obtain ⟨y167,h168,h⟩ := bind_some h;refine RunO.st hp (by kernel_rfl) 0 rfl (by kernel_rfl) (by kernel_rfl) (own_st (EI .i64) (a := y149) h168) ?_;intro H hp;have h169 := upd_len h168; rw [← h169];obtain ⟨y170,h171,h⟩ := bind_some h;obtain ⟨b172,g173,h174,h175⟩ := own_idx (EI .i64) hp 0 rfl h171;cases h174;refine Ro.p (h175 .i64) ?_;obtain ⟨y176,h177,h⟩ := bind_some h;refine RunO.st hp (by kernel_rfl) 0 rfl (by kernel_rfl) (by kernel_rfl) (own_st (EI .i64) (a := y155) h177) ?_;intro H hp;have h178 := upd_len h177; rw [← h178];refine RunO.nil ?_;refine Rn.c (mkE [(0,(slv (EI .i64).z (EI .i64).ag (List.length y176) (some (b151,g152)))),(1,(i6 y110)),(0,(i6 y111))] 24) ?_;refine Run.rgn ?_;refine Ro.t 6 ?_;refine RunO.nil ?_;have h := Option.some.inj h; subst h;show I36_1 _ L _ _ _;exact ⟨q109,(by kernel_rfl),hp⟩
  · rw [ite_f h148] at h; refine Rn.f h148 ?_;refine Run.exit ?_;have h := Option.some.inj h; subst h;exact ⟨rfl,q109,trivial,hp⟩
def F36 (x0 : (List Int)) : Option (List Int) :=
  (iter (fun s : ((List Int) × Int × Int) => F36_1_b s.1 s.2.1 s.2.2) FUEL (x0,(0 : Int),(IntKind.i64.wrap (((List.length x0 : Nat) : Int) - (1 : Int))))).bind fun o => match o with
  | .ret r => some r
  | .go (l144) =>
    some l144
theorem w36 {x0 : (List Int)} {r : (List Int)} (h : F36 x0 = some r) {o1 : Option (Nat × Nat)} {q2 : List V} {H : Heap} {L : List Ob} (hp : HP H ((o1,List.flatMap (EI .i64).c x0 ++ q2) :: L)) : Fn T 36 [(slv (EI .i64).z (EI .i64).ag (List.length x0) o1)] H (Q36 o1 L r) := by
  refine Fn.enterE t36 (e0 := (mkE [(0,(slv (EI .i64).z (EI .i64).ag (List.length x0) o1))] 27)) (by kernel_rfl) ?_;show Run T (.clr [] i36n11) _ _ (finE none [] (Q36 o1 L r));refine Rn.k (mkE [(0,(slv (EI .i64).z (EI .i64).ag (List.length x0) o1))] 27) ?_;unfold F36 at h;refine Rn.g ?_;refine Ro.t 1 ?_;refine Ro.p (own_len (EI .i64) hp 0 rfl) ?_;refine Ro.t 3 ?_;refine Ro.d (mkE [(0,(slv (EI .i64).z (EI .i64).ag (List.length x0) o1)),(1,(i6 (0 : Int))),(0,(i6 (IntKind.i64.wrap ((ln x0) - (1 : Int)))))] 24) ?_;refine Run.block ?_;obtain ⟨o,h179,h⟩ := bind_some h;refine (Run.iter (I := I36_1 o1 L) (RR := RR36 o1 L) (J := J36_1 o1 L) (fun s e h' t hI hf => ?_) FUEL h179 (by exact ⟨q2,(by kernel_rfl),hp⟩)).mono ?_
  · obtain ⟨_,rfl,hp⟩ := hI; exact w36_1_b hf hp
  · rintro X e' H hq;cases o with
    | ret r => cases X <;> first | exact hq.elim | (cases h; exact hq)
    | go l144 =>
      cases X with | nrm => exact hq.elim | ret => exact hq.elim | ext i => ?_;obtain ⟨rfl,q146,he,hp⟩ := hq
      dsimp only at h
      have h := Option.some.inj h; subst h;exact ⟨.tup [],(by kernel_rfl),q146,rfl,hp⟩
end Go.Eng.Gra
namespace Go.Eng
open Go
set_option linter.unusedSectionVars false
set_option linter.unusedVariables false
set_option linter.unusedSimpArgs false
def first {α R : Type} (p : Nat → α → Option R) : Nat → List α → Option R
  | _,[] => none
  | i,a :: l => match p i a with
    | some r => some r
    | none => first p (i + 1) l
def runs {α σ R : Type} (p : Nat → σ → α → R ⊕ σ) : Nat → σ → List α → R ⊕ σ
  | _,s,[] => .inr s
  | i,s,a :: l => match p i s a with
    | .inl r => .inl r
    | .inr s' => runs p (i + 1) s' l
def allI {α : Type} (q : Nat → α → Bool) : Nat → List α → Bool
  | _,[] => true
  | i,a :: l => q i a && allI q (i + 1) l
theorem allI_const {α : Type} (q : α → Bool) : ∀ (i : Nat) (l : List α),allI (fun _ a => q a) i l = l.all q
  | _,[] => rfl
  | i,a :: l => by rw [allI,allI_const q (i + 1) l]; rfl
theorem allI_and {α : Type} (q q' : Nat → α → Bool) : ∀ (i : Nat) (l : List α),allI (fun i a => q i a && q' i a) i l = (allI q i l && allI q' i l)
  | _,[] => rfl
  | i,a :: l => by rw [allI,allI,allI,allI_and q q' (i + 1) l]; cases q i a <;> cases q' i a <;> simp
theorem allI_congr {α : Type} {q q' : Nat → α → Bool} : ∀ (i : Nat) (l : List α),(∀ j a,l[j]? = some a → q (i + j) a = q' (i + j) a) → allI q i l = allI q' i l
  | _,[],_ => rfl
  | i,a :: l,h => by
    have h1 : allI q (i + 1) l = allI q' (i + 1) l := allI_congr (i + 1) l (fun j b hb => by
      have h2 := h (j + 1) b (by simpa using hb);have e : i + (j + 1) = i + 1 + j := by omega
      rw [e] at h2;exact h2)
    have h3 := h 0 a rfl;rw [Nat.add_zero] at h3;simp only [allI,h1,h3]
def outOf {R σ A : Type} (fin : σ → A) : R ⊕ σ → Out R A
  | .inl r => .ret r
  | .inr s => .go (fin s)
def stpOf {R σ S A : Type} (mk : σ → S) : R ⊕ σ → Stp S R A
  | .inl r => .ret r
  | .inr s => .next (mk s)
theorem loop_st {α σ S R A : Type} {l : List α} {f : S → Option (Stp S R A)} (mk : σ → Int → S) (fin : σ → A) (p : Nat → σ → α → R ⊕ σ) (Inv : Nat → σ → Prop) (hl : l.length < 4611686018427387904)
    (hin : ∀ (i : Nat) (s : σ) (a : α),Inv i s → l[i]? = some a → (f (mk s (i : Int)) = some (stpOf (fun s' => mk s' ((i + 1 : Nat) : Int)) (p i s a))) ∧ ∀ s',p i s a = .inr s' → Inv (i + 1) s')
    (hout : ∀ s,Inv l.length s → f (mk s (l.length : Int)) = some (.go (fin s))) {s : σ} (h0 : Inv 0 s) :
    iter f FUEL (mk s 0) = some (outOf fin (runs p 0 s l)) := by
  have key : ∀ (k i n : Nat) (s : σ),i + k = l.length → k < n → Inv i s → iter f n (mk s (i : Int)) = some (outOf fin (runs p i s (l.drop i))) := by
    intro k
    induction k with
    | zero =>
      intro i n s hi hn hI;obtain ⟨m,rfl⟩ : ∃ m,n = m + 1 := ⟨n - 1,by omega⟩;have : i = l.length := by omega
      subst this;rw [iter_succ,hout s hI,List.drop_length]; rfl
    | succ k ih =>
      intro i n s hi hn hI;obtain ⟨m,rfl⟩ : ∃ m,n = m + 1 := ⟨n - 1,by omega⟩;have hil : i < l.length := by omega
      obtain ⟨h1,h2⟩ := hin i s l[i] hI (List.getElem?_eq_getElem hil);rw [iter_succ,h1,List.drop_eq_getElem_cons hil,runs];cases hp : p i s l[i] with
      | inl r => rfl
      | inr s' => exact ih (i + 1) m s' (by omega) (by omega) (h2 s' hp)
  have := key l.length 0 FUEL s (by omega) (by unfold FUEL; omega) h0
  simpa using this
def outF {R A : Type} (a0 : A) : Option R → Out R A
  | some r => .ret r
  | none => .go a0
theorem loop_first {α R A : Type} {l : List α} {f : Int → Option (Stp Int R A)} {a0 : A} (p : Nat → α → Option R) (hl : l.length < 4611686018427387904)
    (hin : ∀ (i : Nat) (a : α),l[i]? = some a → f (i : Int) = some (match p i a with | some r => .ret r | none => .next ((i + 1 : Nat) : Int)))
    (hout : f (l.length : Int) = some (.go a0)) : iter f FUEL 0 = some (outF a0 (first p 0 l)) := by
  have key : ∀ (k i n : Nat),i + k = l.length → k < n → iter f n (i : Int) = some (outF a0 (first p i (l.drop i))) := by
    intro k
    induction k with
    | zero =>
      intro i n hi hn;obtain ⟨m,rfl⟩ : ∃ m,n = m + 1 := ⟨n - 1,by omega⟩;have : i = l.length := by omega
      subst this;rw [iter_succ,hout,List.drop_length]; rfl
    | succ k ih =>
      intro i n hi hn;obtain ⟨m,rfl⟩ : ∃ m,n = m + 1 := ⟨n - 1,by omega⟩;have hil : i < l.length := by omega
      rw [iter_succ,hin i l[i] (List.getElem?_eq_getElem hil),List.drop_eq_getElem_cons hil,first];cases hp : p i l[i] with
      | some r => rfl
      | none => exact ih (i + 1) m (by omega) (by omega)
  have := key l.length 0 FUEL (by omega) (by unfold FUEL; omega)
  simpa using this
theorem loop_all {α R A : Type} {l : List α} {f : Int → Option (Stp Int R A)} {a0 : A} {r0 : R} (q : Nat → α → Bool) (hl : l.length < 4611686018427387904)
    (hin : ∀ (i : Nat) (a : α),l[i]? = some a → f (i : Int) = some (if q i a then .next ((i + 1 : Nat) : Int) else .ret r0))
    (hout : f (l.length : Int) = some (.go a0)) : iter f FUEL 0 = some (if allI q 0 l then .go a0 else .ret r0) := by
  rw [loop_first (a0 := a0) (fun i a => if q i a then none else some r0) hl (fun i a h => by rw [hin i a h]; cases q i a <;> rfl) hout];have : ∀ (l : List α) (i : Nat),first (fun i a => if q i a then none else some r0) i l = if allI q i l then none else some r0 := by
    intro l
    induction l with
    | nil => intro i; rfl
    | cons a l ih =>
      intro i;rw [first,allI];cases q i a
      · rfl
      · rw [Bool.true_and]; exact ih (i + 1)
  rw [this];cases allI q 0 l <;> rfl
theorem loop_find {α : Type} {l : List α} {f : Int → Option (Stp Int Int Unit)} (q : α → Bool) (hl : l.length < 4611686018427387904)
    (hin : ∀ (i : Nat) (a : α),l[i]? = some a → f (i : Int) = some (if q a then .ret (i : Int) else .next ((i + 1 : Nat) : Int)))
    (hout : f (l.length : Int) = some (.go ())) : ∃ r : Int,((iter f FUEL 0).bind fun o => match o with | .ret r => some r | .go () => some (-1)) = some r ∧ decide (r ≥ 0) = l.any q := by
  rw [loop_first (a0 := ()) (fun i a => if q a then some (i : Int) else none) hl (fun i a h => by rw [hin i a h]; cases q a <;> rfl) hout];have : ∀ (l : List α) (i : Nat),(first (fun i a => if q a then some ((i : Nat) : Int) else none) i l = none ∧ l.any q = false) ∨ ∃ k : Nat,first (fun i a => if q a then some ((i : Nat) : Int) else none) i l = some (k : Int) ∧ l.any q = true := by
    intro l
    induction l with
    | nil => intro i; exact .inl ⟨rfl,rfl⟩
    | cons a l ih =>
      intro i;rw [first,List.any_cons];cases q a
      · rw [Bool.false_or]; exact ih (i + 1)
      · exact .inr ⟨i,rfl,rfl⟩
  rcases this l 0 with ⟨h1,h2⟩ | ⟨k,h1,h2⟩
  · exact ⟨-1,by rw [h1]; rfl,by rw [h2]; rfl⟩
  · exact ⟨k,by rw [h1]; rfl,by rw [h2]; exact decide_eq_true (by omega)⟩
end Go.Eng
namespace Go.Eng.Gra
open Go Go.Eng
set_option linter.unusedSectionVars false
set_option linter.unusedVariables false
set_option linter.unusedSimpArgs false
theorem F36_is (l : List Int) (hl : l.length ≤ 140737488355328) : F36 l = some l.reverse := by
  unfold F36;have hw : IntKind.i64.wrap (((List.length l : Nat) : Int) - 1) = ((List.length l : Nat) : Int) - 1 := wrap64_in (by omega) (by omega);rw [hw];have key : iter (fun s : ((List Int) × Int × Int) => F36_1_b s.1 s.2.1 s.2.2) FUEL (l,(0 : Int),((List.length l : Nat) : Int) - 1) = some (.go l.reverse) := by
    refine iter_eq (fun m s => ∃ i : Nat,s.2.1 = (i : Int) ∧ s.2.2 = (l.length : Int) - 1 - (i : Int) ∧ 2 * i ≤ l.length ∧ m = l.length - i ∧ s.1.length = l.length ∧ ∀ k,k < l.length → s.1[k]? = if k < i ∨ l.length ≤ k + i then l[l.length - 1 - k]? else l[k]?) _ ?_ (m := l.length) ⟨0,rfl,by simp,by omega,by omega,rfl,fun k hk => by rw [if_neg (by omega)]⟩ (by omega);rintro m ⟨c,i',j'⟩ ⟨i,h1,h2,h3,rfl,h5,h6⟩;simp only at h1 h2 h5 h6;subst h1; subst h2;unfold F36_1_b
    by_cases hc : (i : Int) < (l.length : Int) - 1 - (i : Int)
    · have hj : (l.length : Int) - 1 - (i : Int) = ((l.length - 1 - i : Nat) : Int) := by omega
      have hil : i < c.length := by omega
      have hjl : l.length - 1 - i < c.length := by omega
      have ei : c[i]? = some c[i] := List.getElem?_eq_getElem hil;have ej : c[l.length - 1 - i]? = some c[l.length - 1 - i] := List.getElem?_eq_getElem hjl;have vi : l[i]? = some c[i] := by rw [← ei,h6 i (by omega),if_neg (by omega)]
      have vj : l[l.length - 1 - i]? = some c[l.length - 1 - i] := by rw [← ej,h6 _ (by omega),if_neg (by omega)]
      generalize c[i] = a at ei vi
      generalize c[l.length - 1 - i] = b at ej vj
      have u1 : upd c (i : Int) b = some (c.set i b) := upd_nat hil;have e1 : (c.set i b)[l.length - 1 - i]? = some b := by rw [List.getElem?_set_ne (by omega)]; exact ej
      have u2 : upd (c.set i b) ((l.length - 1 - i : Nat) : Int) a = some ((c.set i b).set (l.length - 1 - i) a) := upd_nat (by rw [List.length_set]; exact hjl);have w1 : IntKind.i64.wrap ((i : Int) + 1) = ((i + 1 : Nat) : Int) := wnat (by omega);have w2 : IntKind.i64.wrap (((l.length - 1 - i : Nat) : Int) - 1) = (l.length : Int) - 1 - ((i + 1 : Nat) : Int) := by rw [wrap64_in (by omega) (by omega)]; omega
      rw [decide_eq_true hc];simp only [if_true,hj,idx_some ei,idx_some ej,Option.bind_some,u1,idx_some e1,u2,w1,w2];refine ⟨_,rfl,l.length - (i + 1),by omega,i + 1,rfl,rfl,by omega,rfl,by simp [h5],fun k hk => ?_⟩
      simp only
      by_cases hkj : k = l.length - 1 - i
      · subst hkj;rw [List.getElem?_set_self (by rw [List.length_set]; exact hjl),if_pos (by omega),← vi]
        congr 1; omega
      · rw [List.getElem?_set_ne (fun h => hkj h.symm)]
        by_cases hki : k = i
        · subst hki;rw [List.getElem?_set_self hil,if_pos (by omega),← vj]
        · rw [List.getElem?_set_ne (fun h => hki h.symm),h6 k hk]
          by_cases hq : k < i ∨ l.length ≤ k + i
          · rw [if_pos hq,if_pos (by omega)]
          · rw [if_neg hq,if_neg (by omega)]
    · rw [decide_eq_false hc];refine ⟨_,rfl,?_⟩;show Out.go c = Out.go l.reverse
      congr 1
      refine List.ext_getElem? fun k => ?_
      by_cases hk : k < l.length
      · rw [h6 k hk,List.getElem?_reverse hk]
        by_cases hq : k < i ∨ l.length ≤ k + i
        · rw [if_pos hq]
        · rw [if_neg hq]; congr 1; omega
      · rw [List.getElem?_eq_none (by omega),List.getElem?_eq_none (by simp; omega)]
  rw [key]; rfl
end Go.Eng.Gra
namespace Go.Eng.Gra
open Go Go.Eng
set_option linter.unusedSectionVars false
set_option linter.unusedVariables false
set_option linter.unusedSimpArgs false
set_option maxRecDepth 20000
def orderV (g : T_Graph) : Option (List Int) :=
  if g.fBlocks.length = 0 then some [] else
    (made 1 false ((List.length g.fBlocks : Nat) : Int)).bind fun met =>
    (walkV g.fBlocks (g.fBlocks.length + 1) 0 (met,[])).bind fun s => F36 s.2
theorem more_len {α : Type} {by_ : Nat} {l r o : List α} (h : more by_ l r = some o) : o = l ++ r ∧ (l.length + r.length) * by_ ≤ 140737488355328 := by
  unfold more at h
  split at h
  · rename_i hc; cases h; exact ⟨rfl,hc⟩
  · cases h
theorem walk_len {bs : List T_Block} {n : Nat} {i : Int} {s0 s : WS} (h : walkV bs (n + 1) i s0 = some s) : s.2.length ≤ 140737488355328 := by
  unfold walkV at h;obtain ⟨met1,hm1,h⟩ := bind_some h;obtain ⟨b,hb,h⟩ := bind_some h;obtain ⟨s1,h1,h⟩ := bind_some h;obtain ⟨s2,h2,h⟩ := bind_some h;obtain ⟨o,hmore,rfl⟩ := Option.map_eq_some_iff.1 h;obtain ⟨rfl,hc⟩ := more_len hmore;simp only [List.length_append]
  omega
theorem order14 {x0 : T_Graph} {r : List Int} (h : orderV x0 = some r) : Fn T 14 [(E_Graph.e x0)] [] (fun v hh => deep false hh deepN v = some ((EL (EI .i64)).e r)) := by
  unfold orderV at h;refine Fn.enterE t14 (e0 := mkE [(0,E_Graph.e x0)] 19) (by kernel_rfl) ?_;show Run T (.clr [] i14n21) _ _ (finE none [2] _);refine Rn.k (mkE [(0,E_Graph.e x0)] 19) ?_;refine Rn.g ?_;refine Ro.t 2 ?_;refine Ro.d (mkE [(1,.fp (E_Graph.e x0))] 18) ?_;refine Run.seq ?_;refine Rn.g ?_;refine Ro.t 2 ?_;refine Ro.p (len_fz E_Block x0.fBlocks) ?_
  by_cases h0 : x0.fBlocks.length = 0
  · rw [if_pos h0] at h;cases h;refine Ro.p (u := .bool true) (v := some (.bool (decide (((List.length x0.fBlocks : Nat) : Int) = 0)))) (by rw [decide_eq_true (by omega)]) ?_;refine Ro.d (mkE [(1,.fp (E_Graph.e x0)),(7,.bool true)] 10) ?_;refine Run.condT (by kernel_rfl) ?_;refine Run.nowR 30 (cs := none) (res := [2]) (v := .nils) (H' := []) (by kernel_rfl) rfl (fun e h hh => hh)
  rw [if_neg h0] at h;obtain ⟨met,hmade,h⟩ := bind_some h;obtain ⟨s,hw,h⟩ := bind_some h;refine Ro.p (u := .bool false) (v := some (.bool (decide (((List.length x0.fBlocks : Nat) : Int) = 0)))) (by rw [decide_eq_false (by omega)]) ?_;refine Ro.d (mkE [(1,.fp (E_Graph.e x0)),(7,.bool false)] 10) ?_;refine Run.condF (by kernel_rfl) ?_;refine Run.skip ?_;refine Rn.c (mkE [(1,.fp (E_Graph.e x0))] 18) ?_;refine Rn.g ?_;refine Ro.t 2 ?_;refine Ro.p (len_fz E_Block x0.fBlocks) ?_;refine RunO.mks1 EB HP.nil (by kernel_rfl) (a := false) (n := ((List.length x0.fBlocks : Nat) : Int)) (l := met) (by kernel_rfl) (by kernel_rfl) (by kernel_rfl) (by kernel_rfl) (by kernel_rfl) hmade ?_;intro b H hp;refine RunO.alloc hp (by kernel_rfl) ?_;intro bm H hp;refine RunO.st hp (by kernel_rfl) 0 (off := 0) (v := slv EB.z EB.ag met.length (some (b,0))) (cs' := [slv EB.z EB.ag met.length (some (b,0))]) rfl (by kernel_rfl) (by kernel_rfl) (by kernel_rfl) ?_;intro H hp;refine Ro.d (mkE [(1,.fp (E_Graph.e x0)),(1,.ptr bm 0 0)] 16) ?_;refine Run.seq (Run.rgn ?_);refine RunO.alloc hp (by kernel_rfl) ?_;intro bo H hp;refine Ro.d (mkE [(1,.fp (E_Graph.e x0)),(1,.ptr bm 0 0),(0,.ptr bo 0 0)] 15) ?_;refine Run.seq (Run.rgn ?_);refine RunO.alloc hp (by kernel_rfl) ?_;intro bw H hp;refine Ro.d (mkE [(1,.fp (E_Graph.e x0)),(1,.ptr bm 0 0),(0,.ptr bo 0 0),(0,.ptr bw 0 0)] 14) ?_;refine Rn.g ?_;refine Ro.t 1 ?_;refine RunO.st hp (by kernel_rfl) 0 (off := 0) (v := .fn 35 (caps35 bm bw bo (E_Graph.e x0))) (cs' := [.fn 35 (caps35 bm bw bo (E_Graph.e x0))]) rfl (by kernel_rfl) (by kernel_rfl) (by kernel_rfl) ?_;intro H hp;refine Ro.d (mkE [(4,.ptr bo 0 0),(0,.ptr bw 0 0)] 14) ?_;have hp := hp.non;have hp := hp.pick 2 rfl;have hp := hp.pick 2 rfl;have hp := hp.pick 4 rfl;have hp := hp.pick 4 rfl;have hp : HP H (obs bm bw bo (E_Graph.e x0) (some (b,0)) met none [] []) := hp;refine Rn.g ?_;refine Ro.p (hp.ld 2 (off := 0) (n := none) (v := .fn 35 (caps35 bm bw bo (E_Graph.e x0))) rfl rfl) ?_;refine RunO.h1 (n := 35) (caps := caps35 bm bw bo (E_Graph.e x0)) (us := .int .i64 0 :: caps35 bm bw bo (E_Graph.e x0)) (by kernel_rfl) (by kernel_rfl) (by kernel_rfl) ?_;refine (walk35 x0 bm bw bo (some (b,0)) _ 0 (met,[]) s hw H none [] hp).mono ?_;rintro v H ⟨oo,hp⟩;refine Ro.d (mkE [(4,.ptr bo 0 0)] 15) ?_;refine Rn.g ?_;refine Ro.p (hp.ld 3 (off := 0) (n := none) (v := slv 1 false s.2.length oo) rfl rfl) ?_;have hp := hp.pick 4 rfl;refine RunO.h1 (n := 36) (caps := []) (us := [slv 1 false s.2.length oo]) (by kernel_rfl) (by kernel_rfl) (by kernel_rfl) ?_;refine (w36 h hp).mono ?_;rintro v H ⟨q,rfl,hp⟩;refine Ro.d (mkE [(4,.ptr bo 0 0)] 15) ?_;refine Rn.g ?_;refine Ro.p (hp.ld 4 (off := 0) (n := none) (v := slv 1 false s.2.length oo) rfl rfl) ?_;refine Ro.t 1 ?_;refine Ro.d (mkE [(2,slv 1 false s.2.length oo)] 17) ?_;refine Run.ret ⟨slv 1 false s.2.length oo,by kernel_rfl,?_⟩;have hl : r.length = s.2.length := by
    have h2 := F36_is s.2 (walk_len hw);rw [h2] at h; cases h; simp
  rw [← hl];exact own_deep (EI .i64) hp 0 rfl false (.inl rfl) 36
end Go.Eng.Gra
namespace Go.Eng.Gra
open Go Go.Eng
set_option linter.unusedSectionVars false
set_option linter.unusedVariables false
set_option linter.unusedSimpArgs false
set_option maxRecDepth 20000
theorem Fn.now {T : Nat → Option IFun} {f : Nat} {args : List V} {H : Heap} (k : Nat) {v : V} (h : ((exF T k f args H).bind fun r => deep false r.2 deepN r.1) = some v) : Fn T f args H (fun r hh => deep false hh deepN r = some v) := by
  cases he : exF T k f args H with
  | none => rw [he] at h; cases h
  | some r => rw [he] at h; exact ⟨k,r.1,r.2,he,h⟩
def smallV (more : Bool) : T_Graph :=
  ⟨[103],[0],4,[4,1,4],[],[
    ⟨[⟨2,0,2,[],5,0⟩,⟨4,13,1,[0,2],0,0⟩],⟨2,1,⟨2,1⟩,0⟩⟩,
    ⟨[⟨10,0,0,[0],0,0⟩],⟨1,0,⟨3,0⟩,0⟩⟩,
    ⟨[],⟨1,0,⟨3,0⟩,0⟩⟩,
    ⟨[⟨1,0,2,if more then [0,2,2] else [0,2],0,0⟩],⟨3,2,⟨0,0⟩,0⟩⟩,
    ⟨[],⟨1,0,⟨3,0⟩,0⟩⟩]⟩
def F28 (more : Bool) : Option T_Graph := some (smallV more)
theorem c28 {x0 : Bool} {r : T_Graph} (h : F28 x0 = some r) : Fn T 28 [.bool x0] [] (fun v hh => deep false hh deepN v = some (E_Graph.e r)) := by
  obtain rfl : smallV x0 = r := Option.some.inj h;cases x0
  · exact Fn.now 40 (by kernel_rfl)
  · exact Fn.now 40 (by kernel_rfl)
abbrev F14 := orderV
theorem c14 {x0 : T_Graph} {r : List Int} (h : F14 x0 = some r) : Fn T 14 [E_Graph.e x0] [] (fun v hh => deep false hh deepN v = some ((EL (EI .i64)).e r)) := order14 h
end Go.Eng.Gra
namespace Go.Eng
open Go
set_option linter.unusedSectionVars false
set_option linter.unusedVariables false
set_option linter.unusedSimpArgs false
section
variable {T : Nat → Option IFun} {env : List V} {H : Heap} {L : List Ob}
theorem RunO.bslh1 {α : Type} (E : Enc α) {d : Option Nat} {g : Option (Nat × Bool)} {lo : Bool} {z n : Nat} {ag : Bool} {zero : V} {parts : List (Nat × Opd)} {r : List IOp} {Q : List V → Heap → Prop} (hp : HP H L) (hg : gdB env g = true) {xs : List α}
    (h : bslV H z ag n zero (parts.map fun p => (p.1,p.2.ev env)) false = some (slv E.z E.ag xs.length (some (H.length,0)),H ++ [(0,xs.flatMap E.c)]))
    (hr : ∀ b H1,HP H1 ((some (b,0),xs.flatMap E.c ++ []) :: L) → RunO T r (put env d (slv E.z E.ag xs.length (some (b,0)))) H1 Q) : RunO T (⟨d,g,lo,.bsl z ag n zero parts false⟩ :: r) env H Q := by
  refine RunO.w1 hg rfl rfl h (hr _ _ ?_);rw [List.append_nil]; exact hp.new _
def Cl (T : Nat → Option IFun) (n : Nat) : Prop := ∃ k,clnV (exF T k) (.fn n []) = some (.fz [])
theorem RunO.clE {d : Option Nat} {g : Option (Nat × Bool)} {lo : Bool} {n : Nat} {x : Opd} {r : List IOp} {Q : List V → Heap → Prop} (hg : gdB env g = true) (hx : isE (x.ev env) = true) (h : Cl T n) (hr : RunO T r (put env d (.fz [])) H Q) :
    RunO T (⟨d,g,lo,.cln false (.c (.fn n [])) x⟩ :: r) env H Q := by
  obtain ⟨k,h⟩ := h;refine RunO.op ⟨k,?_⟩ hr;have e0 : (Opd.c (.fn n [])).ev env = .fn n [] := rfl;rw [exOp_gd hg];simp only [exOp,exK,Kind.quiet,evq,e0,if_true,hx,h]; rfl
theorem RunO.clN {d : Option Nat} {g : Option (Nat × Bool)} {lo : Bool} {n : Nat} {x : Opd} {u v : V} {r : List IOp} {Q : List V → Heap → Prop} (hg : gdB env g = true) (hx : isE (x.ev env) = false) (hf : V.free deepN (x.ev env) = true)
    (ha : deep false (if lo then [] else H) deepN (x.ev env) = some u) (h : Fn T n [u] [] (fun r h => deep false h deepN r = some v)) (hr : RunO T r (put env d v) H Q) :
    RunO T (⟨d,g,lo,.cln false (.c (.fn n [])) x⟩ :: r) env H Q := by
  obtain ⟨k,rv,Hc,h1,h2⟩ := h;refine RunO.op ⟨k,?_⟩ hr;have e0 : (Opd.c (.fn n [])).ev env = .fn n [] := rfl;rw [exOp_gd hg];simp only [exOp,exK,Kind.quiet,evq,e0,if_true,hx,pcall,omap,ha,Option.bind_some,h1,List.all_cons,List.all_nil,hf,Bool.and_true,Bool.not_true,h2,Bool.false_eq_true,if_false]; rfl
theorem RunO.clEh {d : Option Nat} {g : Option (Nat × Bool)} {lo : Bool} {n : Nat} {x : Opd} {r : List IOp} {Q : List V → Heap → Prop} (hg : gdB env g = true) (hx : isE (x.ev env) = true) (h : Cl T n) (hr : RunO T r (put env d (.fz [])) H Q) :
    RunO T (⟨d,g,lo,.cln true (.c (.fn n [])) x⟩ :: r) env H Q := by
  obtain ⟨k,h⟩ := h;refine RunO.op ⟨k,?_⟩ hr;have e0 : (Opd.c (.fn n [])).ev env = .fn n [] := rfl;rw [exOp_gd hg];simp only [exOp,exK,Kind.quiet,evw,e0,Bool.false_eq_true,if_false,hx,if_true,h]; rfl
theorem RunO.clNh {d : Option Nat} {g : Option (Nat × Bool)} {lo : Bool} {n : Nat} {x : Opd} {r : List IOp} {Q : List V → Heap → Prop} (hg : gdB env g = true) (hx : isE (x.ev env) = false) (hf : V.free deepN (x.ev env) = true)
    (h : Fn T n [x.ev env] [] (fun v Hc => ∃ b gn off len z ag cs,v = .sl b gn off len z ag ∧ rdB Hc b gn = some cs ∧ cs.all (V.free deepN) = true ∧ RunO T r (put env d (.sl H.length 0 off len z ag)) (H ++ [(0,cs)]) Q)) : RunO T (⟨d,g,lo,.cln true (.c (.fn n [])) x⟩ :: r) env H Q := by
  obtain ⟨k,v,H',hk,b,gn,off,len,z,ag,cs,rfl,hcs,hfr,h⟩ := h;refine RunO.op ⟨k,?_⟩ h;have e0 : (Opd.c (.fn n [])).ev env = .fn n [] := rfl;rw [exOp_gd hg];simp only [exOp,exK,Kind.quiet,Bool.false_eq_true,if_false,evw,e0,cln1,hx,hf,if_true,hk,Option.bind_some,hcs,hfr]; rfl
def clF (z : Nat) (ag : Bool) (zero : V) (by_ : Nat) : IFun := ⟨8,[2],.clr [] (.seq (.rgn [⟨some 2,none,false,.mov (.c .nils)⟩]) (.clr [2] (.seq (.seq (.rgn [⟨some 3,none,false,.mov (.t 0)⟩,⟨some 4,none,false,.bin .slice .eql (.t 3) (.c .nils)⟩]) (.clr [3] (.cond (.t 4) (.seq (.rgn [⟨some 2,none,false,.mov (.c .nils)⟩]) (.clr [0,4] .ret)) .skip))) (.clr [2,3,4] (.seq (.rgn [⟨some 5,none,false,.bsl z ag 0 zero [] false⟩,⟨some 6,none,false,.mov (.t 0)⟩,⟨some 7,none,false,.app (.t 5) (.t 6) z ag by_⟩,⟨some 2,none,false,.mov (.t 7)⟩]) (.clr [0,5,6,7] .ret))))))⟩
theorem clone_w {α : Type} (E : Enc α) {n by_ : Nat} {zero : V} (hT : T n = some (clF E.z E.ag zero by_)) (h0 : okEl E.z E.ag zero = true) {l : List α} (hl : l ≠ []) (hb : l.length * by_ ≤ 140737488355328) (hp : HP H L) :
    Fn T n [.fz (l.map E.e)] H (fun v H' => ∃ b g,v = slv E.z E.ag l.length (some (b,g)) ∧ HP H' ((some (b,g),l.flatMap E.c ++ []) :: L)) := by
  obtain ⟨a,l',rfl⟩ : ∃ a l',l = a :: l' := by cases l with | nil => exact absurd rfl hl | cons a l' => exact ⟨a,l',rfl⟩
  refine Fn.enterE hT (e0 := mkE [(0,.fz ((a :: l').map E.e))] 7) (by kernel_rfl) ?_;show Run T (.clr [] (.seq _ _)) _ _ (finE none [2] _);refine Rn.k (mkE [(0,.fz ((a :: l').map E.e))] 7) ?_;refine Rn.g ?_;refine Ro.t 1 ?_;refine Ro.d (mkE [(0,.fz ((a :: l').map E.e))] 7) ?_;refine Run.seq ?_;refine Rn.g ?_;refine Ro.t 2 ?_;refine Ro.d (mkE [(0,.fz ((a :: l').map E.e)),(3,.bool false)] 3) ?_;refine Run.condF (by kernel_rfl) ?_;refine Run.skip ?_;refine Rn.c (mkE [(0,.fz ((a :: l').map E.e))] 7) ?_;refine Rn.g ?_;refine RunO.bslh1 E hp (by kernel_rfl) (xs := []) ?_ ?_
  · show bslV H E.z E.ag 0 zero [] false = _;unfold bslV;rw [h0]; rfl
  intro b H hp;refine Ro.t 1 ?_;have hm : more by_ ([] : List α) (a :: l') = some (a :: l') := by unfold more; rw [if_pos (by simpa using hb)]; rfl
  refine RunO.app1 E hp (by kernel_rfl) 0 (o := some (b,0)) (l := []) (rest := []) (m := a :: l') rfl (by kernel_rfl) (by kernel_rfl) (E.new_fz _ _) rfl rfl hm ?_;intro o' H hp;have hp : HP H ((o',(a :: l').flatMap E.c ++ []) :: L) := hp;refine Ro.t 1 ?_;refine Ro.d (mkE [(2,slv E.z E.ag (a :: l').length o')] 5) ?_;refine Run.ret ?_;have ho : ∃ p,o' = some p := by
    cases o' with
    | some p => exact ⟨p,rfl⟩
    | none =>
      have := hp.at_ 0 none _ rfl;simp only at this;have hlen := congrArg List.length this;rw [List.append_nil,E.flat_len] at hlen;have := E.hz0;have : 0 < (a :: l').length * E.z := Nat.mul_pos (by simp) E.hz0;rw [List.length_nil] at hlen; omega
  obtain ⟨⟨c,g⟩,rfl⟩ := ho;exact ⟨_,by kernel_rfl,c,g,rfl,hp⟩
theorem clone_c {α : Type} (E : Enc α) {n by_ : Nat} {zero : V} (hT : T n = some (clF E.z E.ag zero by_)) (h0 : okEl E.z E.ag zero = true) {l : List α} (hl : l ≠ []) (hb : l.length * by_ ≤ 140737488355328) :
    Fn T n [.fz (l.map E.e)] [] (fun v h => deep false h deepN v = some (.fz (l.map E.e))) := by
  refine (clone_w E hT h0 hl hb HP.nil).mono ?_;rintro v H ⟨b,g,rfl,hp⟩;exact own_deep E hp 0 rfl false (.inl rfl) 36
theorem RunO.cl {α : Type} (E : Enc α) {d : Option Nat} {g : Option (Nat × Bool)} {lo : Bool} {n by_ : Nat} {x : Opd} {zero : V} {r : List IOp} {Q : List V → Heap → Prop} (hg : gdB env g = true) {l : List α} (hx : x.ev env = .fz (l.map E.e))
    (hT : T n = some (clF E.z E.ag zero by_)) (h0 : okEl E.z E.ag zero = true) (hc : Cl T n) (hb : l.length * by_ ≤ 140737488355328) (hr : RunO T r (put env d (.fz (l.map E.e))) H Q) : RunO T (⟨d,g,lo,.cln false (.c (.fn n [])) x⟩ :: r) env H Q := by
  cases l with
  | nil => exact RunO.clE hg (by rw [hx]; rfl) hc hr
  | cons a l =>
    refine RunO.clN hg (by rw [hx]; rfl) (by rw [hx]; rfl) (by rw [hx]; rfl) (clone_c E hT h0 (by simp) hb) hr
theorem RunO.clh {α : Type} (E : Enc α) {d : Option Nat} {g : Option (Nat × Bool)} {lo : Bool} {n by_ : Nat} {x : Opd} {zero : V} {r : List IOp} {Q : List V → Heap → Prop} (hp : HP H L) (hg : gdB env g = true) {l : List α} (hx : x.ev env = .fz (l.map E.e))
    (hT : T n = some (clF E.z E.ag zero by_)) (h0 : okEl E.z E.ag zero = true) (hc : Cl T n) (hb : l.length * by_ ≤ 140737488355328) (hfr : ∀ a,(E.c a).all (V.free deepN) = true)
    (hr : ∀ w H1 o,(w = slv E.z E.ag l.length o ∨ l = [] ∧ o = none ∧ w = .fz []) → HP H1 ((o,l.flatMap E.c ++ []) :: L) → RunO T r (put env d w) H1 Q) : RunO T (⟨d,g,lo,.cln true (.c (.fn n [])) x⟩ :: r) env H Q := by
  cases l with
  | nil => exact RunO.clEh hg (by rw [hx]; rfl) hc (hr _ _ none (.inr ⟨rfl,rfl,rfl⟩) hp.non)
  | cons a l =>
    refine RunO.clNh hg (by rw [hx]; rfl) (by rw [hx]; rfl) ?_;rw [hx];refine (clone_w E hT h0 (by simp) hb HP.nil).mono ?_;rintro v H' ⟨b,g,rfl,hp'⟩;have hfl : ((a :: l).flatMap E.c ++ []).all (V.free deepN) = true := by
      rw [List.append_nil,List.all_eq_true];intro y hy;obtain ⟨q,_,hq⟩ := List.mem_flatMap.mp hy;exact List.all_eq_true.mp (hfr q) y hq
    exact ⟨b,g,0,_,E.z,E.ag,_,rfl,rdB_of (hp'.get (i := 0) rfl),hfl,hr _ _ (some (H.length,0)) (.inl rfl) (hp.new _)⟩
theorem flat_setf {α : Type} (E : Enc α) (l : List α) (rest : List V) {i off : Nat} (hi : i < l.length) (ho : off < E.z) (v : V) (a : α) (h : E.c a = (E.c l[i]).set off v) :
    (l.flatMap E.c ++ rest).set (i * E.z + off) v = (l.set i a).flatMap E.c ++ rest := by
  induction l generalizing i with
  | nil => simp at hi
  | cons x l ih =>
    cases i with
    | zero =>
      rw [List.set_cons_zero,List.flatMap_cons,List.flatMap_cons,Nat.zero_mul,Nat.zero_add,List.append_assoc,List.set_append_left _ _ (by rw [E.hz]; exact ho),List.append_assoc,h]; rfl
    | succ i =>
      rw [List.set_cons_succ,List.flatMap_cons,List.flatMap_cons,List.append_assoc,List.append_assoc,List.set_append_right _ _ (by rw [E.hz,Nat.succ_mul]; omega),E.hz,← ih (by simpa using hi) (by simpa using h)]
      congr 2
      rw [Nat.succ_mul]; omega
theorem own_stf {α : Type} (E : Enc α) {l : List α} {rest : List V} {j : Int} {a a' : α} (h : idx l j = some a) {off : Nat} (ho : off < E.z) {v : V} (hv : v.isCell = true) (hc : E.c a' = (E.c a).set off v) :
    stC (l.flatMap E.c ++ rest) (j.toNat * E.z + off) v none = some ((l.set j.toNat a').flatMap E.c ++ rest) := by
  obtain ⟨h0,h1,h2⟩ := idx_lt h;have hlt : j.toNat < l.length := by omega
  have hlen : j.toNat * E.z + E.z ≤ (l.flatMap E.c ++ rest).length := by
    rw [List.length_append,E.flat_len];have h3 : j.toNat + 1 ≤ l.length := by omega
    have := Nat.mul_le_mul_right E.z h3;rw [Nat.succ_mul] at this; omega
  have hva : v.cells = [v] := by cases v <;> simp_all [V.isCell,V.cells]
  unfold stC;rw [if_pos (by simp only [fitsSh,hv,Bool.true_and,decide_eq_true_eq,hva,List.length_singleton]; omega)];have e : l[j.toNat] = a := by rw [List.getElem?_eq_getElem hlt] at h2; exact Option.some.inj h2
  rw [flat_setf E l rest hlt ho v a' (by rw [e]; exact hc)]
end
end Go.Eng
