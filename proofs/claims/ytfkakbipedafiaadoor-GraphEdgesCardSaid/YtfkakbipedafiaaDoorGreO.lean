/- Order's walk, by hand (no condition beyond those stated). -/
import Derived.Test.YtfkakbipedafiaaDoorGreX
import Derived.Test.YtfkakbipedafiaaDoorEngZ
namespace Go.Eng.Gra
open Go Go.Eng
set_option linter.unusedSectionVars false
set_option linter.unusedVariables false
set_option linter.unusedSimpArgs false
set_option maxRecDepth 20000

abbrev caps35 (bm bw bo : Nat) (G : V) : List V := [.ptr bm 0 0, .fp G, .ptr bw 0 0, .ptr bo 0 0]
/-- what lies in the heap while Order walks -/
abbrev obs (bm bw bo : Nat) (G : V) (om : Option (Nat × Nat)) (met : List Bool) (oo : Option (Nat × Nat)) (out : List Int) (L : List Ob) : List Ob :=
  (some (bm, 0), [slv 1 false met.length om]) :: (om, met.flatMap EB.c ++ []) :: (some (bw, 0), [.fn 35 (caps35 bm bw bo G)]) :: (some (bo, 0), [slv 1 false out.length oo]) :: (oo, out.flatMap (EI .i64).c ++ []) :: L
abbrev WS := List Bool × List Int
/-- does an edge go on there? -/
def goV (t : T_Term) (k : Nat) : Bool := t.fKind == 2 || (t.fKind == 1 && k == 0)
def stepW (rec : Int → WS → Option WS) (t : T_Term) (k : Nat) (to : Int) (s : WS) : Option WS :=
  if (goV t k && (decide (0 ≤ to ∧ to < (s.1.length : Int)) && !(s.1.getD to.toNat false))) = true then rec to s else some s
def walkV (bs : List T_Block) : Nat → Int → WS → Option WS
  | 0, _, _ => none
  | n + 1, i, s => (upd s.1 i true).bind fun met1 => (idx bs i).bind fun b =>
    (stepW (walkV bs n) b.fTerm 0 b.fTerm.fTo.a0 (met1, s.2)).bind fun s1 =>
    (stepW (walkV bs n) b.fTerm 1 b.fTerm.fTo.a1 s1).bind fun s2 =>
    (more 8 s2.2 [i]).map fun o => (s2.1, o)

def RecOk (bm bw bo : Nat) (G : V) (om : Option (Nat × Nat)) (rec : Int → WS → Option WS) : Prop :=
  ∀ (to : Int) (s s' : WS), rec to s = some s' → ∀ (H : Heap) (oo : Option (Nat × Nat)) (L : List Ob), HP H (obs bm bw bo G om s.1 oo s.2 L) →
    Fn T 35 (.int .i64 to :: caps35 bm bw bo G) H (fun v h => ∃ oo', HP h (obs bm bw bo G om s'.1 oo' s'.2 L))
def e35 (bm bw bo bt : Nat) (i : Int) (a0 a1 : Int) (k : Nat) : List V := mkE [(0, .int .i64 i), (0, .ptr bm 0 0), (1, .ptr bw 0 0), (0, .ptr bo 0 0), (1, .ptr bt 0 0), (13, .ag [.int .i64 a0, .int .i64 a1]), (0, .int .i64 (k : Int))] 37
def e35b (bm bw bo bt : Nat) (i : Int) (a0 a1 : Int) (k : Nat) (to : Int) (g : Bool) : List V := mkE [(0, .int .i64 i), (0, .ptr bm 0 0), (1, .ptr bw 0 0), (0, .ptr bo 0 0), (1, .ptr bt 0 0), (1, .int .i64 to), (0, .bool g), (10, .ag [.int .i64 a0, .int .i64 a1]), (0, .int .i64 (k : Int))] 37
abbrev tbo (bt : Nat) (t : T_Term) : Ob := (some (bt, 0), E_Term.c t)
abbrev cl35 : List Nat := [7, 8, 9, 23, 24, 25, 26, 27, 28, 29, 30, 31, 32, 33, 34, 35, 36, 37, 38, 39, 40, 41, 42, 43, 44, 45, 46, 47, 48, 49, 50, 51, 52, 53]

theorem goes35 {bm bw bo bt : Nat} {G : V} {om oo : Option (Nat × Nat)} {s : WS} {L : List Ob} {H : Heap} {t : T_Term} (hp : HP H (obs bm bw bo G om s.1 oo s.2 (tbo bt t :: L))) (k : Nat) (hk : k = 0 ∨ k = 1) (i to : Int) (Q : X → List V → Heap → Prop)
    (h : Run T i35n10 (e35b bm bw bo bt i t.fTo.a0 t.fTo.a1 k to (goV t k)) H Q) : Run T i35n11 (mkE [(0, .int .i64 i), (0, .ptr bm 0 0), (1, .ptr bw 0 0), (0, .ptr bo 0 0), (1, .ptr bt 0 0), (0, .int .i64 (k : Int)), (0, .int .i64 to), (11, .ag [.int .i64 t.fTo.a0, .int .i64 t.fTo.a1]), (0, .int .i64 (k : Int))] 37) H Q := by
  have hld := hp.ld 5 (off := 0) (n := none) (v := .int .u8 t.fKind) rfl rfl
  refine Rn.g ?_
  refine Ro.t 1 ?_
  refine Ro.p hld ?_
  cases h2 : (t.fKind == 2)
  · refine Ro.p (bool_of h2) ?_
    refine Ro.t 2 ?_
    refine Ro.p hld ?_
    cases h1 : (t.fKind == 1)
    · have hg : goV t k = false := by unfold goV; rw [h2, h1]; rfl
      rw [hg] at h
      refine Ro.p (bool_of h1) ?_
      refine Ro.t 6 ?_
      exact Ro.d (e35b bm bw bo bt i t.fTo.a0 t.fTo.a1 k to false) h
    · refine Ro.p (bool_of h1) ?_
      rcases hk with rfl | rfl
      · have hg : goV t 0 = true := by unfold goV; rw [h2, h1]; rfl
        rw [hg] at h
        refine Ro.t 6 ?_
        exact Ro.d (e35b bm bw bo bt i t.fTo.a0 t.fTo.a1 0 to true) h
      · have hg : goV t 1 = false := by unfold goV; rw [h2, h1]; rfl
        rw [hg] at h
        refine Ro.t 6 ?_
        exact Ro.d (e35b bm bw bo bt i t.fTo.a0 t.fTo.a1 1 to false) h
  · have hg : goV t k = true := by unfold goV; rw [h2]; rfl
    rw [hg] at h
    refine Ro.p (bool_of h2) ?_
    refine Ro.t 10 ?_
    exact Ro.d (e35b bm bw bo bt i t.fTo.a0 t.fTo.a1 k to true) h

theorem step35 {bm bw bo bt : Nat} {G : V} {om oo : Option (Nat × Nat)} {s s' : WS} {L : List Ob} {H : Heap} {t : T_Term} (rec : Int → WS → Option WS) (hrec : RecOk bm bw bo G om rec) (hp : HP H (obs bm bw bo G om s.1 oo s.2 (tbo bt t :: L))) (k : Nat) (i to : Int)
    (h : stepW rec t k to s = some s') :
    Run T i35n10 (e35b bm bw bo bt i t.fTo.a0 t.fTo.a1 k to (goV t k)) H (fun x e h => x = .nrm ∧ clrEnv cl35 e = mkE [(0, .int .i64 i), (0, .ptr bm 0 0), (1, .ptr bw 0 0), (0, .ptr bo 0 0), (1, .ptr bt 0 0), (13, .ag [.int .i64 t.fTo.a0, .int .i64 t.fTo.a1]), (0, .int .i64 (k : Int))] 37 ∧
      ∃ oo', HP h (obs bm bw bo G om s'.1 oo' s'.2 (tbo bt t :: L))) := by
  unfold stepW at h
  have hm := hp.ld 0 (off := 0) (n := none) (v := slv 1 false s.1.length om) rfl rfl
  refine Rn.g ?_
  cases hg : goV t k
  · rw [hg] at h
    simp only [Bool.false_and, Bool.false_eq_true, if_false] at h
    cases h
    refine Ro.t 14 ?_
    refine Ro.d (mkE [(0, .int .i64 i), (0, .ptr bm 0 0), (1, .ptr bw 0 0), (0, .ptr bo 0 0), (1, .ptr bt 0 0), (1, .int .i64 to), (11, .ag [.int .i64 t.fTo.a0, .int .i64 t.fTo.a1]), (0, .int .i64 (k : Int)), (28, .bool false)] 8) ?_
    refine Run.condF (by kernel_rfl) ?_
    exact Run.skip ⟨rfl, by kernel_rfl, oo, hp⟩
  rw [hg] at h
  refine Ro.t 3 ?_
  refine Ro.p hm ?_
  refine Ro.p (own_len EB hp 1 rfl) ?_
  cases hb : decide (0 ≤ to ∧ to < (s.1.length : Int))
  · rw [hb] at h
    simp only [Bool.false_and, Bool.and_false, Bool.false_eq_true, if_false] at h
    cases h
    refine RunO.c1 (by kernel_rfl) (by kernel_rfl) (c34 (x0 := to) (x1 := (s.1.length : Int)) (r := false) (by rw [in34, hb]) _) ?_
    refine Ro.t 8 ?_
    refine Ro.d (mkE [(0, .int .i64 i), (0, .ptr bm 0 0), (1, .ptr bw 0 0), (0, .ptr bo 0 0), (1, .ptr bt 0 0), (1, .int .i64 to), (11, .ag [.int .i64 t.fTo.a0, .int .i64 t.fTo.a1]), (0, .int .i64 (k : Int)), (28, .bool false)] 8) ?_
    refine Run.condF (by kernel_rfl) ?_
    exact Run.skip ⟨rfl, by kernel_rfl, oo, hp⟩
  rw [hb] at h
  have hb' := of_decide_eq_true hb
  have hix : idx s.1 to = some (s.1.getD to.toNat false) := by
    unfold idx; rw [if_pos hb'.1]; simp [List.getD, show to.toNat < s.1.length by omega]
  refine RunO.c1 (by kernel_rfl) (by kernel_rfl) (c34 (x0 := to) (x1 := (s.1.length : Int)) (r := true) (by rw [in34, hb]) _) ?_
  refine Ro.t 2 ?_
  refine Ro.p hm ?_
  refine Ro.t 1 ?_
  obtain ⟨b, g, hom, hia⟩ := own_idx EB hp 1 rfl hix
  subst hom
  refine Ro.p (hia .i64) ?_
  have hlm := own_ld EB hp 1 rfl hix (off := 0) (n := none) (v := .bool (s.1.getD to.toNat false)) rfl
  refine Ro.p hlm ?_
  generalize s.1.getD to.toNat false = m at h
  cases m
  · simp only [Bool.not_false, Bool.and_self, if_true] at h
    refine Ro.t 2 ?_
    refine Ro.d (mkE [(0, .int .i64 i), (0, .ptr bm 0 0), (1, .ptr bw 0 0), (0, .ptr bo 0 0), (1, .ptr bt 0 0), (1, .int .i64 to), (11, .ag [.int .i64 t.fTo.a0, .int .i64 t.fTo.a1]), (0, .int .i64 (k : Int)), (28, .bool true)] 8) ?_
    refine Run.condT (by kernel_rfl) ?_
    refine Run.rgn ?_
    refine Ro.p (hp.ld 2 (off := 0) (n := none) (v := .fn 35 (caps35 bm bw bo G)) rfl rfl) ?_
    refine Ro.t 1 ?_
    refine RunO.h1 (n := 35) (caps := caps35 bm bw bo G) (us := .int .i64 to :: caps35 bm bw bo G) (by kernel_rfl) (by kernel_rfl) (by kernel_rfl) ?_
    refine (hrec to s s' h H oo (tbo bt t :: L) hp).mono ?_
    rintro v h' ⟨oo', hp'⟩
    exact RunO.nil ⟨rfl, by kernel_rfl, oo', hp'⟩
  · simp only [Bool.not_true, Bool.and_false, Bool.false_eq_true, if_false] at h
    cases h
    refine Ro.t 2 ?_
    refine Ro.d (mkE [(0, .int .i64 i), (0, .ptr bm 0 0), (1, .ptr bw 0 0), (0, .ptr bo 0 0), (1, .ptr bt 0 0), (1, .int .i64 to), (11, .ag [.int .i64 t.fTo.a0, .int .i64 t.fTo.a1]), (0, .int .i64 (k : Int)), (28, .bool false)] 8) ?_
    refine Run.condF (by kernel_rfl) ?_
    exact Run.skip ⟨rfl, by kernel_rfl, oo, hp⟩

theorem upd_in {α : Type} {l l' : List α} {i : Int} {a : α} (h : upd l i a = some l') : ∃ x, idx l i = some x := by
  unfold upd at h
  split at h
  · rename_i hc
    exact ⟨l[i.toNat]'(by omega), by unfold idx; rw [if_pos hc.1]; exact List.getElem?_eq_getElem (by omega)⟩
  · cases h
theorem walk35 (x0 : T_Graph) (bm bw bo : Nat) (om : Option (Nat × Nat)) : ∀ n, RecOk bm bw bo (E_Graph.e x0) om (walkV x0.fBlocks n) := by
  intro n
  induction n with
  | zero => intro to s s' h; cases h
  | succ n ih =>
    intro i s s' h H oo L hp
    unfold walkV at h
    obtain ⟨met1, hm1, h⟩ := bind_some h
    obtain ⟨b, hb, h⟩ := bind_some h
    obtain ⟨s1, h1, h⟩ := bind_some h
    obtain ⟨s2, h2, h⟩ := bind_some h
    obtain ⟨o, hmore, rfl⟩ := Option.map_eq_some_iff.1 h
    refine Fn.enterE t35 (e0 := mkE [(0, .int .i64 i), (0, .ptr bm 0 0), (0, .fp (E_Graph.e x0)), (0, .ptr bw 0 0), (0, .ptr bo 0 0)] 54) (by kernel_rfl) ?_
    show Run T (.clr [] i35n24) _ _ (finE none [] _)
    refine Rn.k (mkE [(0, .int .i64 i), (0, .ptr bm 0 0), (0, .fp (E_Graph.e x0)), (0, .ptr bw 0 0), (0, .ptr bo 0 0)] 54) ?_
    refine Rn.g ?_
    refine Ro.p (hp.ld 0 (off := 0) (n := none) (v := slv 1 false s.1.length om) rfl rfl) ?_
    refine Ro.t 1 ?_
    obtain ⟨x, hix⟩ := upd_in hm1
    obtain ⟨c, g, hom, hia⟩ := own_idx EB hp 1 rfl hix
    subst hom
    refine Ro.p (hia .i64) ?_
    refine RunO.st hp (by kernel_rfl) 1 rfl (by kernel_rfl) (by kernel_rfl) (own_st EB (a := true) hm1) ?_
    intro H hp
    have hl := upd_len hm1
    have hp : HP H (obs bm bw bo (E_Graph.e x0) (some (c, g)) met1 oo s.2 L) := by
      show HP H ((some (bm, 0), [slv 1 false met1.length (some (c, g))]) :: _)
      rw [hl]; exact hp
    refine Ro.d (mkE [(0, .int .i64 i), (0, .ptr bm 0 0), (0, .fp (E_Graph.e x0)), (0, .ptr bw 0 0), (0, .ptr bo 0 0)] 54) ?_
    refine Rn.g ?_
    refine Ro.t 3 ?_
    refine Ro.p (idx_fz E_Block .i64 hb) ?_
    refine Ro.t 2 ?_
    refine RunO.alloc hp (by kernel_rfl) ?_
    intro bt H hp
    refine RunO.st hp (by kernel_rfl) 0 (off := 0) (v := E_Term.e b.fTerm) (cs' := E_Term.c b.fTerm) rfl (by kernel_rfl) (by kernel_rfl) (by kernel_rfl) ?_
    intro H hp
    have hp := hp.pick 5 rfl
    have hp := hp.pick 5 rfl
    have hp := hp.pick 5 rfl
    have hp := hp.pick 5 rfl
    have hp := hp.pick 5 rfl
    have hp : HP H (obs bm bw bo (E_Graph.e x0) (some (c, g)) met1 oo s.2 (tbo bt b.fTerm :: L)) := hp
    refine Ro.d (mkE [(0, .int .i64 i), (0, .ptr bm 0 0), (1, .ptr bw 0 0), (0, .ptr bo 0 0), (1, .ptr bt 0 0)] 52) ?_
    refine Run.seq ?_
    refine Rn.g ?_
    refine Ro.t 1 ?_
    refine Ro.p (hp.ld 5 (off := 2) (n := some 2) (v := .ag [.int .i64 b.fTerm.fTo.a0, .int .i64 b.fTerm.fTo.a1]) rfl rfl) ?_
    refine Ro.t 1 ?_
    refine Ro.d (e35 bm bw bo bt i b.fTerm.fTo.a0 b.fTerm.fTo.a1 0) ?_
    refine Run.block ?_
    refine Run.loop1 ?_
    refine Rn.k (e35 bm bw bo bt i b.fTerm.fTo.a0 b.fTerm.fTo.a1 0) ?_
    refine Rn.g ?_
    refine Ro.t 1 ?_
    refine Ro.d (mkE [(0, .int .i64 i), (0, .ptr bm 0 0), (1, .ptr bw 0 0), (0, .ptr bo 0 0), (1, .ptr bt 0 0), (13, .ag [.int .i64 b.fTerm.fTo.a0, .int .i64 b.fTerm.fTo.a1]), (0, .int .i64 0), (0, .bool true)] 36) ?_
    refine Run.seq ?_
    refine Run.condT (by kernel_rfl) ?_
    refine Run.skip ?_
    refine Rn.c (e35 bm bw bo bt i b.fTerm.fTo.a0 b.fTerm.fTo.a1 0) ?_
    refine Run.seq ?_
    refine Run.block ?_
    refine Rn.g ?_
    refine Ro.t 4 ?_
    refine Ro.d (mkE [(0, .int .i64 i), (0, .ptr bm 0 0), (1, .ptr bw 0 0), (0, .ptr bo 0 0), (1, .ptr bt 0 0), (0, .int .i64 ((0 : Nat) : Int)), (0, .int .i64 b.fTerm.fTo.a0), (11, .ag [.int .i64 b.fTerm.fTo.a0, .int .i64 b.fTerm.fTo.a1]), (0, .int .i64 ((0 : Nat) : Int))] 37) ?_
    refine goes35 (s := (met1, s.2)) hp 0 (.inl rfl) i b.fTerm.fTo.a0 _ ?_
    refine (step35 (s := (met1, s.2)) _ ih hp 0 i b.fTerm.fTo.a0 h1).mono ?_
    rintro X e H ⟨rfl, he, oo1, hp⟩
    show Run T (.clr cl35 (.rgn i35r14)) _ _ _
    refine Run.clr ?_
    rw [he]
    refine Run.rgn (Ro.t 2 (RunO.nil ?_))
    show Run T (.loop _) _ _ _
    refine Run.loop1 ?_
    refine Rn.k (e35 bm bw bo bt i b.fTerm.fTo.a0 b.fTerm.fTo.a1 1) ?_
    refine Rn.g ?_
    refine Ro.t 1 ?_
    refine Ro.d (mkE [(0, .int .i64 i), (0, .ptr bm 0 0), (1, .ptr bw 0 0), (0, .ptr bo 0 0), (1, .ptr bt 0 0), (13, .ag [.int .i64 b.fTerm.fTo.a0, .int .i64 b.fTerm.fTo.a1]), (0, .int .i64 1), (0, .bool true)] 36) ?_
    refine Run.seq ?_
    refine Run.condT (by kernel_rfl) ?_
    refine Run.skip ?_
    refine Rn.c (e35 bm bw bo bt i b.fTerm.fTo.a0 b.fTerm.fTo.a1 1) ?_
    refine Run.seq ?_
    refine Run.block ?_
    refine Rn.g ?_
    refine Ro.t 4 ?_
    refine Ro.d (mkE [(0, .int .i64 i), (0, .ptr bm 0 0), (1, .ptr bw 0 0), (0, .ptr bo 0 0), (1, .ptr bt 0 0), (0, .int .i64 ((1 : Nat) : Int)), (0, .int .i64 b.fTerm.fTo.a1), (11, .ag [.int .i64 b.fTerm.fTo.a0, .int .i64 b.fTerm.fTo.a1]), (0, .int .i64 ((1 : Nat) : Int))] 37) ?_
    refine goes35 (s := s1) hp 1 (.inr rfl) i b.fTerm.fTo.a1 _ ?_
    refine (step35 (s := s1) _ ih hp 1 i b.fTerm.fTo.a1 h2).mono ?_
    rintro X e H ⟨rfl, he, oo2, hp⟩
    show Run T (.clr cl35 (.rgn i35r14)) _ _ _
    refine Run.clr ?_
    rw [he]
    refine Run.rgn (Ro.t 2 (RunO.nil ?_))
    show Run T (.loop _) _ _ _
    refine Run.loop1 ?_
    refine Rn.k (e35 bm bw bo bt i b.fTerm.fTo.a0 b.fTerm.fTo.a1 2) ?_
    refine Rn.g ?_
    refine Ro.t 1 ?_
    refine Ro.d (mkE [(0, .int .i64 i), (0, .ptr bm 0 0), (1, .ptr bw 0 0), (0, .ptr bo 0 0), (1, .ptr bt 0 0), (13, .ag [.int .i64 b.fTerm.fTo.a0, .int .i64 b.fTerm.fTo.a1]), (0, .int .i64 2), (0, .bool false)] 36) ?_
    refine Run.seq ?_
    refine Run.condF (by kernel_rfl) ?_
    refine Run.exit ?_
    show Run T (.clr _ (.rgn i35r21)) _ _ _
    refine Rn.k (mkE [(0, .int .i64 i), (3, .ptr bo 0 0)] 54) ?_
    refine Run.rgn ?_
    refine Ro.p (hp.ld 3 (off := 0) (n := none) (v := slv 1 false s2.2.length oo2) rfl rfl) ?_
    refine Ro.t 2 ?_
    refine RunO.app1 (EI .i64) hp (by kernel_rfl) 4 (o := oo2) (l := s2.2) (rest := []) (m := [i]) rfl (by kernel_rfl) (by kernel_rfl) ((EI .i64).new_fz _ [i]) (by kernel_rfl) (by kernel_rfl) hmore ?_
    intro o' H hp
    refine RunO.st hp (by kernel_rfl) 3 (off := 0) (v := slv 1 false o.length o') (cs' := [slv 1 false o.length o']) rfl (by kernel_rfl) (by kernel_rfl) (by cases o' <;> rfl) ?_
    intro H hp
    refine RunO.nil ?_
    have hp := hp.pick 5 rfl
    have hp := hp.del 0
    exact ⟨.tup [], by kernel_rfl, o', hp⟩
end Go.Eng.Gra
