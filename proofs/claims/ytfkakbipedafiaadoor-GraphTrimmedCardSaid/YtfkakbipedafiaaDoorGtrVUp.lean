/- Functions of this seat, run on unknown values by the rules of the small machine (no condition beyond those stated). -/
import Derived.Test.YtfkakbipedafiaaDoorGtrPUp
import Derived.Test.YtfkakbipedafiaaDoorGtrE3Up
namespace Go.Eng.Gra
open Go Go.Eng
set_option linter.unusedSectionVars false
set_option linter.unusedVariables false
set_option linter.unusedSimpArgs false
theorem first_spT (x : Int) : ∀ (l : List Int) (i : Nat),(first (R := Int) (fun i a => if a == x then some ((i : Nat) : Int) else none) i l = none ∧ x ∉ l) ∨ ∃ k : Nat,first (R := Int) (fun i a => if a == x then some ((i : Nat) : Int) else none) i l = some ((i + k : Nat) : Int) ∧ l[k]? = some x
  | [],i => .inl ⟨rfl,by simp⟩
  | a :: l,i => by
    by_cases h : a = x
    · subst h;exact .inr ⟨0,by simp [first],rfl⟩
    · have hb : (a == x) = false := by simp [h]
      rcases first_spT x l (i + 1) with ⟨h1,h2⟩ | ⟨k,h1,h2⟩
      · refine .inl ⟨by simp only [first,hb,Bool.false_eq_true,if_false]; exact h1,?_⟩;simp only [List.mem_cons,not_or];exact ⟨fun e => h e.symm,h2⟩
      · refine .inr ⟨k + 1,?_,by simpa using h2⟩;simp only [first,hb,Bool.false_eq_true,if_false];rw [h1]; congr 1; omega
theorem F65_sp (l : List Int) (x : Int) (hl : Sz l) : ∃ r,F65 l x = some r ∧ ((r = -1 ∧ x ∉ l) ∨ ∃ k : Nat,r = (k : Int) ∧ l[k]? = some x) := by
  unfold Sz at hl;have e2 : iter (fun s : (Int) => F65_1_b l x s) FUEL (0 : Int) = some (outF () (first (R := Int) (fun i a => if a == x then some ((i : Nat) : Int) else none) 0 l)) := by
    refine loop_first (l := l) _ (by omega) (fun i a h => ?_) ?_
    · have := lt_of h;simp only [F65_1_b,lt_dec this,if_true,idx_some h,Option.bind_some,wnat (show i ≤ 4611686018427387904 by omega)];rw [show (x == a) = (a == x) from Bool.beq_comm];cases a == x <;> rfl
    · simp only [F65_1_b,ge_dec,Bool.false_eq_true,if_false]
  unfold F65;rw [e2];rcases first_spT x l 0 with ⟨h1,h2⟩ | ⟨k,h1,h2⟩
  · rw [h1]; exact ⟨-1,rfl,.inl ⟨rfl,h2⟩⟩
  · rw [h1,Nat.zero_add]; exact ⟨(k : Int),rfl,.inr ⟨k,rfl,h2⟩⟩
theorem setAt_spT : ∀ (o : List Int) (i : Nat) (pl : List Int),(∀ v ∈ o,0 ≤ v ∧ v < (pl.length : Int)) → o.Nodup →
    ∃ pl',setAt o i pl = some pl' ∧ pl'.length = pl.length ∧ (∀ v : Nat,(v : Int) ∉ o → pl'[v]? = pl[v]?) ∧ (∀ (j v : Nat),o[j]? = some (v : Int) → pl'[v]? = some ((i + j + 1 : Nat) : Int))
  | [],i,pl,_,_ => ⟨pl,rfl,rfl,fun _ _ => rfl,fun j v h => by simp at h⟩
  | k :: o,i,pl,hr,hn => by
    obtain ⟨h0,h1⟩ := hr k (List.mem_cons_self ..);obtain ⟨kn,rfl⟩ : ∃ kn : Nat,k = (kn : Int) := ⟨k.toNat,by omega⟩;have hkl : kn < pl.length := by omega
    have hno := List.nodup_cons.1 hn;obtain ⟨pl',e1,e2,e3,e4⟩ := setAt_spT o (i + 1) (pl.set kn ((i + 1 : Nat) : Int)) (fun v hv => by rw [List.length_set]; exact hr v (List.mem_cons_of_mem _ hv)) hno.2;refine ⟨pl',?_,by rw [e2,List.length_set],fun v hv => ?_,fun j v hj => ?_⟩
    · simp only [setAt,upd_nat hkl,Option.bind_some]; exact e1
    · simp only [List.mem_cons,not_or] at hv;rw [e3 v hv.2,List.getElem?_set_ne (by omega)]
    · cases j with
      | zero =>
        have hv : v = kn := by have h := Option.some.inj hj; omega
        subst hv;rw [e3 v hno.1,List.getElem?_set_self hkl]
      | succ j =>
        have := e4 j v (by simpa using hj);rw [this]; congr 2; omega
def GT (wr o had : List Int) (q : Int) : Option Int := (idx o q).bind fun k => (F65 wr k).bind fun p => if p < (had.length : Int) then idx had p else none
def WasT (wr o : List Int) (q : Int) : Prop := ∃ k,∃ p : Nat,idx o q = some k ∧ F65 wr k = some (p : Int) ∧ wr[p]? = some k
theorem runs_GT {R : Type} (wr o had : List Int) : ∀ (l : List Int) (i : Nat) (s : List Int),runs (R := R) (fun _ (s : List Int) q => .inr (s ++ (GT wr o had q).toList)) i s l = .inr (s ++ l.filterMap (GT wr o had))
  | [],i,s => by simp [runs]
  | q :: l,i,s => by
    simp only [runs];rw [runs_GT wr o had l];cases h : GT wr o had q with
    | none => rw [List.filterMap_cons_none h]; simp
    | some a => rw [List.filterMap_cons_some h]; simp
theorem F47_isT {wr o had nw : List Int} (h : ∀ q ∈ nw,WasT wr o q) (hb : nw.length * 8 ≤ 140737488355328) : F47 had wr nw o = some (nw.filterMap (GT wr o had)) := by
  have e : iter (fun s : (List Int) × Int => F47_1_b had wr nw o s.1 s.2) FUEL ([],(0 : Int)) = some (outOf (R := List Int) (fun s : List Int => s) (runs (R := List Int) (fun _ (s : List Int) q => .inr (s ++ (GT wr o had q).toList)) 0 [] nw)) := by
    refine loop_st (l := nw) (f := fun s : (List Int) × Int => F47_1_b had wr nw o s.1 s.2) (fun s i => (s,i)) (fun s => s) _ (fun i s => s.length ≤ i) (by omega) (fun i s q hs hq => ⟨?_,fun s' hs' => ?_⟩) (fun s hs => ?_) (Nat.le_refl 0)
    · have hi := lt_of hq;obtain ⟨k,p,h1,h2,_⟩ := h q (List.mem_of_getElem? hq);simp only [F47_1_b,lt_dec hi,if_true,idx_some hq,Option.bind_some,h1,h2]
      by_cases hp : (p : Int) < (had.length : Int)
      · have hpn : p < had.length := by omega
        have hx : idx had (p : Int) = some had[p] := idx_get hpn;have hG : GT wr o had q = some had[p] := by
          unfold GT; rw [h1,Option.bind_some,h2,Option.bind_some,if_pos hp,hx]
        rw [decide_eq_true hp];simp only [if_true,hx,Option.bind_some];rw [more_nat (by simp only [List.length_singleton]; omega),Option.bind_some];simp only [F47_j1,wnat (show i ≤ 4611686018427387904 by omega),hG]; rfl
      · have hG : GT wr o had q = none := by
          unfold GT; rw [h1,Option.bind_some,h2,Option.bind_some,if_neg hp]
        rw [decide_eq_false hp];simp only [Bool.false_eq_true,if_false,F47_j1,wnat (show i ≤ 4611686018427387904 by omega),hG,Option.toList_none,List.append_nil]; rfl
    · cases hs';cases GT wr o had q <;> simp <;> omega
    · simp only [F47_1_b,ge_dec,Bool.false_eq_true,if_false]
  unfold F47;rw [e,runs_GT]; rfl
theorem GT_all {wr o had : List Int} (hl : had.length = wr.length) : ∀ (nw : List Int),(∀ q ∈ nw,WasT wr o q) → (nw.filterMap (GT wr o had)).length = nw.length ∧ ∀ a ∈ nw.filterMap (GT wr o had),a ∈ had
  | [],_ => ⟨rfl,fun a h => by simp at h⟩
  | q :: nw,h => by
    obtain ⟨k,p,h1,h2,h3⟩ := h q (List.mem_cons_self ..);obtain ⟨i1,i2⟩ := GT_all hl nw (fun q hq => h q (List.mem_cons_of_mem _ hq));have hp : p < had.length := by rw [hl]; exact lt_of h3
    have hG : GT wr o had q = some had[p] := by
      unfold GT; rw [h1,Option.bind_some,h2,Option.bind_some,if_pos (by omega),idx_get hp]
    rw [List.filterMap_cons_some hG];refine ⟨by simp [i1],fun a ha => ?_⟩;rcases List.mem_cons.1 ha with h | h
    · rw [h]; exact List.getElem_mem _
    · exact i2 a h
theorem GT_id {nw o had : List Int} (hl : had.length = nw.length) (hn : nw.Nodup) (hs : Sz nw) (ho : ∀ q ∈ nw,idx o q = some q) : nw.filterMap (GT nw o had) = had := by
  have key : ∀ (l : List Int) (i : Nat),(∀ j,l[j]? = nw[i + j]?) → l.filterMap (GT nw o had) = had.drop i := by
    intro l
    induction l with
    | nil =>
      intro i h;have : nw[i]? = none := by have := h 0; simpa using this.symm
      rw [List.drop_eq_nil_of_le (by rw [hl]; exact List.getElem?_eq_none_iff.mp this)]; rfl
    | cons q l ih =>
      intro i h;have hq : nw[i]? = some q := by have := h 0; simpa using this.symm
      have hil := lt_of hq;obtain ⟨r,f1,f2⟩ := F65_sp nw q hs;have hr : r = (i : Int) := by
        rcases f2 with ⟨_,f2⟩ | ⟨k,rfl,f2⟩
        · exact absurd (List.mem_of_getElem? hq) f2
        · have := (List.getElem?_inj (lt_of f2) hn).1 (f2.trans hq.symm)
          omega
      have hi : i < had.length := by omega
      have hG : GT nw o had q = some had[i] := by
        unfold GT; rw [ho q (List.mem_of_getElem? hq),Option.bind_some,f1,Option.bind_some,hr,if_pos (by omega),idx_get hi]
      rw [List.filterMap_cons_some hG,ih (i + 1) (fun j => by have := h (j + 1); rw [show i + 1 + j = i + (j + 1) by omega]; simpa using this),List.drop_eq_getElem_cons hi]
  have := key nw 0 (fun j => by rw [Nat.zero_add])
  rwa [List.drop_zero] at this
end Go.Eng.Gra
namespace Go.Eng.Gra
open Go Go.Eng
set_option linter.unusedSectionVars false
set_option linter.unusedVariables false
set_option linter.unusedSimpArgs false
set_option maxRecDepth 20000
abbrev ZG : List V := [(.str ⟨#[]⟩),.nils,(.int .u8 0),.nils,.nils,.nils]
def blocksOf (g : T_Graph) (bs : List T_Block) : T_Graph := { g with fBlocks := bs }
theorem deep_out {H : Heap} {x0 : T_Graph} {n : Nat} {ob : Option (Nat × Nat)} {bs : List T_Block} (h : deep false H 39 (slv 6 true n ob) = some ((EL E_Block).e bs)) :
    deep false H deepN (.ag (OC x0 (slv 6 true n ob))) = some (E_Graph.e (blocksOf x0 bs)) := by
  have : omap (deep false H 39) (OC x0 (slv 6 true n ob)) = some (E_Graph.c (blocksOf x0 bs)) :=
    omapc rfl (omapc rfl (omapc rfl (omapc rfl (omapc rfl (omapc h rfl)))))
  show (omap (deep false H 39) _).map V.ag = _;rw [this]; rfl
theorem rows_deep2 {H : Heap} {A : Ob} {ob : Option (Nat × Nat)} {rows : List RB} {tl : List Ob} (hp : HP H (A :: (ob,rbs rows ++ []) :: robs rows.reverse ++ tl)) (hok : ∀ q ∈ rows,q.ok) : deep false H 39 (slv 6 true rows.length ob) = some ((EL E_Block).e (rows.map RB.b)) := by
  refine deep_rbs hp 1 rfl (fun r hr => ⟨hok r hr,?_⟩) 31;obtain ⟨i,hi⟩ := List.getElem?_of_mem hr;have h := rrev hi;refine ⟨2 + (rows.length - 1 - i),?_⟩;rw [show 2 + (rows.length - 1 - i) = (rows.length - 1 - i) + 1 + 1 by omega,List.cons_append,List.cons_append,List.getElem?_cons_succ,List.getElem?_cons_succ,List.getElem?_append_left (List.getElem?_eq_some_iff.mp h).1];exact h
theorem omap_len {α β : Type} {f : α → Option β} : ∀ {l : List α} {r : List β},omap f l = some r → r.length = l.length
  | [],r,h => by simp [omap] at h; simp [h]
  | a :: l,r,h => by
    simp only [omap] at h
    split at h
    · rename_i b r' h1 h2; cases h; simp [omap_len h2]
    · cases h
theorem half25 {b2 b8 : Nat} {o : List Int} {was now : List (List Int)} {x0 : T_Graph} {tl : List Ob} {bs2 : List T_Block} {rows0 : List RB} {ob : Option (Nat × Nat)} {H : Heap} (Q : X → List V → Heap → Prop)
    (hok0 : ∀ q ∈ rows0,q.ok) (hbig0 : ∀ q ∈ rows0,q.l.length ≤ 140737488355328) (hnl : now.length = rows0.length) (hsm : rows0.length ≤ 1048576)
    (hp : HP H ((some (b8,0),OC x0 (slv 6 true rows0.length ob)) :: (ob,rbs rows0 ++ []) :: robs rows0.reverse ++ tl)) (h : rowsT was o now 0 (rows0.map RB.b) = some bs2)
    (hq : ∀ (rows : List RB) (H' : Heap) (e' : List V),(∀ q ∈ rows,q.ok) → rows.map RB.b = bs2 → rows.length = rows0.length → clrEnv [3,4,16,17,18,19,113,114,115,116,117,118,119,120,121,122,123,124,125,126,127,128,129,130,131,132,133,134,135,136,137,138,139,140,141,142,143,144,145,146,147,148,149,150,151,152,153,154,155,156,157,158,159,160,161,162] e' = (mkE [(2,.ptr b2 0 0),(5,.ptr b8 0 0)] 155) →
      HP H' ((some (b8,0),OC x0 (slv 6 true rows.length ob)) :: (ob,rbs rows ++ []) :: robs rows.reverse ++ tl) → Q .nrm e' H') :
    Run T i25n86 (e25Q b2 b8 o was now 0) H Q := by
  refine Run.block ?_;refine Run.loopc (fun m e h => ∃ (i : Nat) (x : Int) (rows : List RB) (bt : List T_Block),x = (i : Int) ∧ i ≤ rows0.length ∧ m = rows0.length - i ∧ rows.length = rows0.length ∧ (∀ q ∈ rows,q.ok) ∧ rows.drop i = rows0.drop i ∧ rowsT was o now i ((rows.drop i).map RB.b) = some bt ∧ (rows.take i).map RB.b ++ bt = bs2 ∧
      HP h ((some (b8,0),OC x0 (slv 6 true rows.length ob)) :: (ob,rbs rows ++ []) :: robs rows.reverse ++ tl) ∧ e = e25Q b2 b8 o was now x) rows0.length
    ⟨0,0,rows0,bs2,rfl,by omega,by omega,rfl,hok0,rfl,h,rfl,hp,by kernel_rfl⟩ ?_
  rintro m e H ⟨i,x,rows,bt,hx,hi,rfl,hrl,hok,hdr,hrows,hbs,hp,rfl⟩;refine Rn.g ?_;refine Ro.t 1 ?_;refine Ro.d (mkE [(2,.ptr b2 0 0),(0,Zl (EI .i64) o),(0,Zl (EL (EI .i64)) was),(3,.ptr b8 0 0),(105,Zl (EL (EI .i64)) now),(0,.int .i64 (ln now)),(0,.int .i64 x),(0,.bool (decide (x < (ln now))))] 46) ?_;refine Run.seq ?_
  by_cases hlt : i < rows0.length
  · refine Run.condT (by rw [decide_eq_true (show x < ln now by show x < ((List.length now : Nat) : Int); omega)]; kernel_rfl) ?_;refine Run.skip ?_;refine Rn.c (e25Q b2 b8 o was now x) ?_;have hil : i < rows.length := by omega
    have hr : rows[i]? = some rows[i] := List.getElem?_eq_getElem hil;have hdrop : rows.drop i = rows[i] :: rows.drop (i + 1) := List.drop_eq_getElem_cons hil;have hbigr : rows[i].l.length ≤ 140737488355328 := by
      have h0 : rows0[i]? = some rows[i] := by
        have := congrArg (·[0]?) hdr;simp only [List.getElem?_drop,Nat.add_zero] at this;rw [← this]; exact hr
      exact hbig0 _ (List.mem_of_getElem? h0)
    rw [hdrop] at hrows
    generalize rows[i] = r at hr hdrop hrows hbigr
    simp only [List.map_cons,rowsT] at hrows;obtain ⟨nw,hnw,hrows⟩ := bind_some hrows;obtain ⟨l2,hl2,hrows⟩ := bind_some hrows;obtain ⟨bt',hbt,rfl⟩ := Option.map_eq_some_iff.1 hrows;refine Run.seq ?_;refine Run.block ?_;refine Rn.g ?_;refine Ro.t 1 ?_;refine Ro.p (idx_fz (EL (EI .i64)) (l := now) (i := x) (a := nw) .i64 (by rw [hx]; exact hnw)) ?_;refine Ro.t 3 ?_;refine Ro.d (mkE [(2,.ptr b2 0 0),(0,Zl (EI .i64) o),(0,Zl (EL (EI .i64)) was),(3,.ptr b8 0 0),(7,.int .i64 x),(0,Zl (EI .i64) nw),(96,Zl (EL (EI .i64)) now),(0,.int .i64 (ln now)),(0,.int .i64 x)] 47) ?_;refine Rn.g ?_;obtain ⟨bb,gg,rfl,hib⟩ := rb_idx hp 1 rfl hil;refine Ro.t 1 ?_;refine Ro.p (hp.ld 0 (off := 5) (n := none) (v := slv 6 true rows.length (some (bb,gg))) rfl rfl) ?_;refine Ro.t 1 ?_;refine Ro.p (v := idxaV (slv 6 true rows.length (some (bb,gg))) (.int .i64 x) 6 true) (u := .ptr bb gg (i * 6)) (by rw [hx]; exact hib .i64) ?_;refine Ro.t 1 ?_;refine Ro.p (rb_ld hp 1 rfl hr) ?_;have hpos := rrev hr;have hidx : ((some (b8,0),OC x0 (slv 6 true rows.length (some (bb,gg)))) :: (some (bb,gg),rbs rows ++ []) :: robs rows.reverse ++ tl)[2 + (rows.length - 1 - i)]? = some r.ob := by
      rw [show 2 + (rows.length - 1 - i) = (rows.length - 1 - i) + 1 + 1 by omega,List.cons_append,List.cons_append,List.getElem?_cons_succ,List.getElem?_cons_succ,List.getElem?_append_left (List.getElem?_eq_some_iff.mp hpos).1];exact hpos
    refine Ro.p (rb_len hp _ hidx (hok r (List.mem_of_getElem? hr))) ?_;refine Ro.t 1 ?_;refine Ro.d (e25R b2 b8 o was now x nw r.w r.l.length 0) ?_;refine ins25 hx _ hr hok hbigr hp hl2 (fun r' H' e' h1 h2 h3 h4 he hp' => ?_);show Run T (.clr _ (.rgn i25r81)) _ _ _;refine Run.clr ?_;rw [he];have hadd : IntKind.i64.wrap (x + 1) = ((i + 1 : Nat) : Int) := by rw [hx,wrap64_in (by omega) (by omega)]; omega
    have hrc : r'.c = r.c := by unfold RB.c; rw [h2,h3]
    refine Run.rgn (Ro.t 2 (RunO.nil ⟨rows0.length - (i + 1),by omega,i + 1,_,rows.set i r',bt',hadd,by omega,rfl,by simpa using hrl,?_,?_,?_,?_,?_,by kernel_rfl⟩))
    · intro q hq';rcases List.mem_or_eq_of_mem_set hq' with h | h
      · exact hok q h
      · rw [h]; exact h1
    · rw [List.drop_set_of_lt (by omega),← List.drop_drop,← List.drop_drop,hdr]
    · rw [List.drop_set_of_lt (by omega)]; exact hbt
    · rw [← hbs];have e : (rows.set i r').take (i + 1) = rows.take i ++ [r'] := by
        rw [List.take_succ_eq_append_getElem (by simpa using hil),List.getElem_set_self,List.take_set_of_le (Nat.le_refl _)]
      have eb : r'.b = ⟨l2,r.b.fTerm⟩ := by unfold RB.b; rw [h3,h4]
      rw [e,List.map_append,List.map_cons,List.map_nil,eb,List.append_assoc]; rfl
    · rw [rbs_set hr hrc,List.length_set]; exact hp'
  · refine Run.condF (by rw [decide_eq_false (show ¬ x < ln now by show ¬ x < ((List.length now : Nat) : Int); omega)]; kernel_rfl) ?_;refine Run.exit ?_;have hi2 : i = rows.length := by omega
    subst hi2;rw [List.drop_length] at hrows;cases hrows;rw [List.take_length,List.append_nil] at hbs;exact hq rows H _ hok hbs hrl (by kernel_rfl) hp
end Go.Eng.Gra
namespace Go.Eng.Gra
open Go Go.Eng
set_option linter.unusedSectionVars false
set_option linter.unusedVariables false
set_option linter.unusedSimpArgs false
set_option maxRecDepth 20000
abbrev OP (b5 : Nat) (pl : List Int) : Ob := (some (b5,0),pl.flatMap (EI .i64).c ++ [])
def e25B (b2 b5 : Nat) (G : V) (o : List Int) (was : List (List Int)) (n : Nat) : List V := (mkE [(1,.fp G),(0,.ptr b2 0 0),(0,Zl (EI .i64) o),(0,Zl (EL (EI .i64)) was),(0,slv 1 false n (some (b5,0)))] 158)
theorem upd_idx {l l' : List Int} {k v : Int} (h : upd l k v = some l') : ∃ a,idx l k = some a := by
  unfold upd at h
  split at h
  · rename_i hc
    exact ⟨_,by unfold idx; rw [if_pos hc.1]; exact List.getElem?_eq_getElem (by omega)⟩
  · cases h
theorem pl25 {b2 b5 : Nat} {G : V} {o : List Int} {was : List (List Int)} {pl0 pl : List Int} {H : Heap} {L : List Ob} (Q : X → List V → Heap → Prop)
    (hp : HP H (OP b5 pl0 :: L)) (h : setAt o 0 pl0 = some pl) (ho : o.length ≤ 1048576)
    (hq : ∀ (H' : Heap) (e' : List V),clrEnv [6,7,28,29,30,31,32,33,34,35,36,37,38,39,40] e' = e25B b2 b5 G o was pl0.length → HP H' (OP b5 pl :: L) → Q .nrm e' H') :
    Run T i25n16 (e25B b2 b5 G o was pl0.length) H Q := by
  refine Rn.g ?_;refine Ro.t 1 ?_;refine Ro.p (len_fz (EI .i64) o) ?_;refine Ro.t 1 ?_;refine Ro.d (e25A b2 b5 G o was pl0.length 0) ?_;refine Run.block ?_;refine Run.loopc (fun m e h => ∃ (i : Nat) (x : Int) (pl1 : List Int),x = (i : Int) ∧ i ≤ o.length ∧ m = o.length - i ∧ pl1.length = pl0.length ∧ setAt (o.drop i) i pl1 = some pl ∧ HP h (OP b5 pl1 :: L) ∧ e = e25A b2 b5 G o was pl0.length x) o.length
    ⟨0,0,pl0,rfl,by omega,by omega,rfl,h,hp,by kernel_rfl⟩ ?_
  rintro m e H ⟨i,x,pl1,hx,hi,rfl,hpl,hset,hp,rfl⟩;refine Rn.g ?_;refine Ro.t 1 ?_;refine Ro.d (mkE [(1,.fp G),(0,.ptr b2 0 0),(0,Zl (EI .i64) o),(0,Zl (EL (EI .i64)) was),(0,slv 1 false pl0.length (some (b5,0))),(22,Zl (EI .i64) o),(0,.int .i64 (ln o)),(0,.int .i64 x),(0,.bool (decide (x < (ln o))))] 132) ?_;refine Run.seq ?_
  by_cases hlt : i < o.length
  · refine Run.condT (by rw [decide_eq_true (show x < ln o by show x < ((List.length o : Nat) : Int); omega)]; kernel_rfl) ?_;refine Run.skip ?_;refine Rn.c (e25A b2 b5 G o was pl0.length x) ?_;have hk : o[i]? = some o[i] := List.getElem?_eq_getElem hlt;have hdrop : o.drop i = o[i] :: o.drop (i + 1) := List.drop_eq_getElem_cons hlt;rw [hdrop] at hset
    generalize o[i] = k at hk hdrop hset
    simp only [setAt] at hset;obtain ⟨pl2,hu,hset⟩ := bind_some hset;refine Run.seq ?_;refine Run.block ?_;refine Rn.g ?_;refine Ro.t 1 ?_;refine Ro.p (idx_fz (EI .i64) (l := o) (i := x) (a := k) .i64 (by rw [hx]; exact idx_some hk)) ?_;refine Ro.t 3 ?_;refine Ro.d (mkE [(1,.fp G),(0,.ptr b2 0 0),(0,Zl (EI .i64) o),(0,Zl (EL (EI .i64)) was),(0,slv 1 false pl0.length (some (b5,0))),(0,.int .i64 x),(0,.int .i64 k),(20,Zl (EI .i64) o),(0,.int .i64 (ln o)),(0,.int .i64 x)] 133) ?_;obtain ⟨a,ha⟩ := upd_idx hu;obtain ⟨b',g',hro,hia⟩ := own_idx (EI .i64) hp 0 rfl ha;cases hro;have hwx : IntKind.i64.wrap (x + 1) = ((i + 1 : Nat) : Int) := by rw [hx,wrap64_in (by omega) (by omega)]; omega
    rw [hpl] at hia;refine Run.rgn ?_;refine Ro.t 4 ?_;refine Ro.p (hia .i64) ?_;refine RunO.st hp (by kernel_rfl) 0 (off := k.toNat * (EI .i64).z) (v := (EI .i64).e ((i + 1 : Nat) : Int)) (cs' := pl2.flatMap (EI .i64).c ++ []) rfl (by kernel_rfl) (by rw [← hwx]; kernel_rfl) (own_st (EI .i64) hu) ?_;intro H hp;refine RunO.nil ?_;show Run T (.clr _ (.rgn i25r10)) _ _ _;refine Rn.k (e25A b2 b5 G o was pl0.length x) ?_;exact Run.rgn (Ro.t 2 (RunO.nil ⟨o.length - (i + 1),by omega,i + 1,_,pl2,hwx,by omega,rfl,by rw [upd_len hu]; exact hpl,hset,hp,by kernel_rfl⟩))
  · refine Run.condF (by rw [decide_eq_false (show ¬ x < ln o by show ¬ x < ((List.length o : Nat) : Int); omega)]; kernel_rfl) ?_;refine Run.exit ?_;have hi2 : i = o.length := by omega
    subst hi2;rw [List.drop_length] at hset;cases hset;exact hq H _ (by kernel_rfl) hp
theorem two25 {b2 b5 b8 b11 b12 : Nat} {G vo vw vl vi : V} {pl : List Int} {t t2 : T_Term} {H : Heap} {L : List Ob} (Q : X → List V → Heap → Prop) {i : Nat} (hi : L[i]? = some (OP b5 pl))
    (hp : HP H ((some (b12,0),E_Term.c t) :: L)) (h : trTm pl t = some t2)
    (hq : ∀ (H' : Heap) (e' : List V),clrEnv [13,14,15,68,69,70,71,72,73,74,75,76,77,78,79,80,81,82,83,84,85,86,87,88,89,90,91,92,93,94,95,96,97,98,99,100,101] e' = e25K b2 b5 b8 b11 b12 G vo vw vl vi pl → HP H' ((some (b12,0),E_Term.c t2) :: L) → Q .nrm e' H') :
    Run T i25n42 (e25K b2 b5 b8 b11 b12 G vo vw vl vi pl) H Q := by
  unfold trTm at h;obtain ⟨a,ha,h⟩ := bind_some h;obtain ⟨b,hb,rfl⟩ := Option.map_eq_some_iff.1 h;refine Rn.g ?_;refine Ro.t 1 ?_;refine Ro.p (hp.ld 0 (off := 2) (n := some 2) (v := .ag [.int .i64 t.fTo.a0,.int .i64 t.fTo.a1]) rfl rfl) ?_;refine Ro.t 1 ?_;refine Ro.d (e25L b2 b5 b8 b11 b12 G vo vw vl vi pl t.fTo 0) ?_;refine Run.block ?_;refine Run.loopc (fun m e h => ∃ (k : Nat) (tk : T_Term),(k = 0 ∧ m = 2 ∧ tk = t ∨ k = 1 ∧ m = 1 ∧ tk = setTo t 0 a ∨ k = 2 ∧ m = 0 ∧ tk = { t with fTo := ⟨a,b⟩ }) ∧ HP h ((some (b12,0),E_Term.c tk) :: L) ∧ e = e25L b2 b5 b8 b11 b12 G vo vw vl vi pl t.fTo k) 2
    ⟨0,t,.inl ⟨rfl,rfl,rfl⟩,hp,by kernel_rfl⟩ ?_
  rintro m e H ⟨k,tk,hk,hp1,rfl⟩;refine Rn.g ?_;refine Ro.t 1 ?_;rcases hk with ⟨rfl,rfl,rfl⟩ | ⟨rfl,rfl,rfl⟩ | ⟨rfl,rfl,rfl⟩
  · refine Ro.d (mkE [(1,.fp G),(0,.ptr b2 0 0),(0,vo),(0,vw),(0,slv 1 false pl.length (some (b5,0))),(2,.ptr b8 0 0),(2,.ptr b11 0 0),(0,.ptr b12 0 0),(42,vo),(0,vl),(0,vi),(11,.ag [.int .i64 tk.fTo.a0,.int .i64 tk.fTo.a1]),(0,.int .i64 0),(0,.bool true)] 92) ?_;refine Run.seq (Run.condT (by kernel_rfl) (Run.skip ?_));refine Rn.c (e25L b2 b5 b8 b11 b12 G vo vw vl vi pl tk.fTo 0) ?_;refine Run.seq (Run.block ?_);refine Rn.g ?_;refine Ro.t 4 ?_;refine Ro.d (e25M b2 b5 b8 b11 b12 G vo vw vl vi pl tk.fTo 0 (getTo tk 0)) ?_;refine (round25 hp1 hi 0 (.inl rfl) ha).mono ?_;rintro X e H ⟨rfl,he,hp2⟩;show Run T (.clr cl25 (.rgn i25r36)) _ _ _;refine Run.clr ?_;rw [he];exact Run.rgn (Ro.t 2 (RunO.nil ⟨1,by omega,1,_,.inr (.inl ⟨rfl,rfl,rfl⟩),hp2,by kernel_rfl⟩))
  · refine Ro.d (mkE [(1,.fp G),(0,.ptr b2 0 0),(0,vo),(0,vw),(0,slv 1 false pl.length (some (b5,0))),(2,.ptr b8 0 0),(2,.ptr b11 0 0),(0,.ptr b12 0 0),(42,vo),(0,vl),(0,vi),(11,.ag [.int .i64 t.fTo.a0,.int .i64 t.fTo.a1]),(0,.int .i64 1),(0,.bool true)] 92) ?_;refine Run.seq (Run.condT (by kernel_rfl) (Run.skip ?_));refine Rn.c (e25L b2 b5 b8 b11 b12 G vo vw vl vi pl t.fTo 1) ?_;refine Run.seq (Run.block ?_);refine Rn.g ?_;refine Ro.t 4 ?_;refine Ro.d (e25M b2 b5 b8 b11 b12 G vo vw vl vi pl t.fTo 1 (getTo (setTo t 0 a) 1)) ?_;refine (round25 hp1 hi 1 (.inr rfl) (to' := b) (by rw [trTo_get]; exact hb)).mono ?_;rintro X e H ⟨rfl,he,hp2⟩;show Run T (.clr cl25 (.rgn i25r36)) _ _ _;refine Run.clr ?_;rw [he];exact Run.rgn (Ro.t 2 (RunO.nil ⟨0,by omega,2,_,.inr (.inr ⟨rfl,rfl,rfl⟩),hp2,by kernel_rfl⟩))
  · refine Ro.d (mkE [(1,.fp G),(0,.ptr b2 0 0),(0,vo),(0,vw),(0,slv 1 false pl.length (some (b5,0))),(2,.ptr b8 0 0),(2,.ptr b11 0 0),(0,.ptr b12 0 0),(42,vo),(0,vl),(0,vi),(11,.ag [.int .i64 t.fTo.a0,.int .i64 t.fTo.a1]),(0,.int .i64 2),(0,.bool false)] 92) ?_;refine Run.seq (Run.condF (by kernel_rfl) (Run.exit ?_));exact hq H _ (by kernel_rfl) hp1
theorem tl0 {A B C p q : Ob} {R : List Ob} : (A :: B :: C :: R ++ [p,q])[3 + R.length]? = some p := by
  rw [show 3 + R.length = R.length + 1 + 1 + 1 by omega,List.cons_append,List.cons_append,List.cons_append,List.getElem?_cons_succ,List.getElem?_cons_succ,List.getElem?_cons_succ,List.getElem?_append_right (Nat.le_refl _),Nat.sub_self]; rfl
theorem tl1 {A B p q : Ob} {R : List Ob} : (A :: B :: R ++ [p,q])[3 + R.length]? = some q := by
  rw [show 3 + R.length = R.length + 1 + 1 + 1 by omega,List.cons_append,List.cons_append,List.getElem?_cons_succ,List.getElem?_cons_succ,List.getElem?_append_right (by omega),show R.length + 1 - R.length = 1 by omega]; rfl
theorem tl_set {A B p q q' : Ob} {R : List Ob} : (A :: B :: R ++ [p,q]).set (3 + R.length) q' = A :: B :: R ++ [p,q'] := by
  rw [show 3 + R.length = R.length + 1 + 1 + 1 by omega,List.cons_append,List.cons_append,List.set_cons_succ,List.set_cons_succ,List.set_append_right _ _ (by omega),show R.length + 1 - R.length = 1 by omega]; rfl
theorem bl25 {b2 b5 b8 : Nat} {o : List Int} {was : List (List Int)} {x0 : T_Graph} {pl : List Int} {bs1 : List T_Block} {H : Heap} (Q : X → List V → Heap → Prop) (ho : o.length ≤ 1048576)
    (hp : HP H [(some (b8,0),OC x0 .nils),OP b5 pl,(some (b2,0),ZG)]) (h : omap (trB x0.fBlocks pl) o = some bs1)
    (hq : ∀ (rows : List RB) (ob : Option (Nat × Nat)) (H' : Heap) (e' : List V),(∀ q ∈ rows,q.ok) → rows.map RB.b = bs1 → (∀ q ∈ rows,q.l.length ≤ 140737488355328) → clrEnv [1,5,10,11,12,13,14,15,55,56,57,58,59,60,61,62,63,64,65,66,67,68,69,70,71,72,73,74,75,76,77,78,79,80,81,82,83,84,85,86,87,88,89,90,91,92,93,94,95,96,97,98,99,100,101,102,103,104,105,106,107,108,109,110,111,112] e' = (mkE [(2,.ptr b2 0 0),(0,Zl (EI .i64) o),(0,Zl (EL (EI .i64)) was),(3,.ptr b8 0 0)] 155) →
      HP H' ((some (b8,0),OC x0 (slv 6 true rows.length ob)) :: (ob,rbs rows ++ []) :: robs rows.reverse ++ [OP b5 pl,(some (b2,0),ZG)]) → Q .nrm e' H') :
    Run T i25n55 (mkE [(1,.fp (E_Graph.e x0)),(0,.ptr b2 0 0),(0,Zl (EI .i64) o),(0,Zl (EL (EI .i64)) was),(0,slv 1 false pl.length (some (b5,0))),(2,.ptr b8 0 0)] 155) H Q := by
  refine Rn.g ?_;refine Ro.t 1 ?_;refine Ro.p (len_fz (EI .i64) o) ?_;refine Ro.t 1 ?_;refine Ro.d (e25J b2 b5 b8 (E_Graph.e x0) (Zl (EI .i64) o) (Zl (EL (EI .i64)) was) (.int .i64 (ln o)) (.int .i64 0) pl) ?_;refine Run.block ?_;refine Run.loopc (fun m e h => ∃ (i : Nat) (x : Int) (rows : List RB) (ob : Option (Nat × Nat)) (bt : List T_Block),x = (i : Int) ∧ i ≤ o.length ∧ m = o.length - i ∧ rows.length = i ∧ (∀ q ∈ rows,q.ok) ∧ (∀ q ∈ rows,q.l.length ≤ 140737488355328) ∧ omap (trB x0.fBlocks pl) (o.drop i) = some bt ∧ rows.map RB.b ++ bt = bs1 ∧
      HP h ((some (b8,0),OC x0 (slv 6 true rows.length ob)) :: (ob,rbs rows ++ []) :: robs rows.reverse ++ [OP b5 pl,(some (b2,0),ZG)]) ∧ e = e25J b2 b5 b8 (E_Graph.e x0) (Zl (EI .i64) o) (Zl (EL (EI .i64)) was) (.int .i64 (ln o)) (.int .i64 x) pl) o.length
    ⟨0,0,[],none,bs1,rfl,by omega,by omega,rfl,fun _ h => absurd h List.not_mem_nil,fun _ h => absurd h List.not_mem_nil,h,rfl,by have h9 := (hp.non).pick 1 rfl; simpa [rbs,robs,slv] using h9,by kernel_rfl⟩ ?_
  rintro m e H ⟨i,x,rows,ob,bt,hx,hi,rfl,hrl,hok,hbig,hbt,hbs,hp,rfl⟩;refine Rn.g ?_;refine Ro.t 1 ?_;refine Ro.d (mkE [(1,.fp (E_Graph.e x0)),(0,.ptr b2 0 0),(0,Zl (EI .i64) o),(0,Zl (EL (EI .i64)) was),(0,slv 1 false pl.length (some (b5,0))),(2,.ptr b8 0 0),(46,Zl (EI .i64) o),(0,.int .i64 (ln o)),(0,.int .i64 x),(0,.bool (decide (x < (ln o))))] 105) ?_;refine Run.seq ?_
  by_cases hlt : i < o.length
  · refine Run.condT (by rw [decide_eq_true (show x < ln o by show x < ((List.length o : Nat) : Int); omega)]; kernel_rfl) ?_;refine Run.skip ?_;refine Rn.c (e25J b2 b5 b8 (E_Graph.e x0) (Zl (EI .i64) o) (Zl (EL (EI .i64)) was) (.int .i64 (ln o)) (.int .i64 x) pl) ?_;have hk : o[i]? = some o[i] := List.getElem?_eq_getElem hlt;have hdrop : o.drop i = o[i] :: o.drop (i + 1) := List.drop_eq_getElem_cons hlt;rw [hdrop] at hbt
    generalize o[i] = k at hk hdrop hbt
    simp only [omap] at hbt
    split at hbt
    case h_2 => cases hbt
    rename_i b1 bt' htb hrest
    cases hbt;unfold trB at htb;obtain ⟨b,hb,htb⟩ := bind_some htb;obtain ⟨t2,ht2,htb⟩ := bind_some htb;obtain ⟨l1,hclo,rfl⟩ := Option.map_eq_some_iff.1 htb;obtain ⟨rfl,hclb⟩ := clo_spec hclo;refine Run.seq ?_;refine Run.block ?_;refine Rn.g ?_;refine Ro.p (idx_fz (EI .i64) (l := o) (i := x) (a := k) .i64 (by rw [hx]; exact idx_some hk)) ?_;refine Ro.t 2 ?_;refine Ro.d (mkE [(1,.fp (E_Graph.e x0)),(0,.ptr b2 0 0),(0,Zl (EI .i64) o),(0,Zl (EL (EI .i64)) was),(0,slv 1 false pl.length (some (b5,0))),(2,.ptr b8 0 0),(1,.int .i64 k),(44,Zl (EI .i64) o),(0,.int .i64 (ln o)),(0,.int .i64 x)] 106) ?_;refine Rn.g ?_;refine Ro.t 3 ?_;refine Ro.p (idx_fz E_Block (l := x0.fBlocks) (i := k) (a := b) .i64 hb) ?_;refine Ro.t 1 ?_;refine RunO.alloc hp (by kernel_rfl) ?_;intro b11 H hp;refine RunO.st hp (by kernel_rfl) 0 (off := 0) (v := E_Block.e b) (cs' := E_Block.c b) rfl (by kernel_rfl) (by kernel_rfl) (by kernel_rfl) ?_;intro H hp;refine Ro.d (mkE [(1,.fp (E_Graph.e x0)),(0,.ptr b2 0 0),(0,Zl (EI .i64) o),(0,Zl (EL (EI .i64)) was),(0,slv 1 false pl.length (some (b5,0))),(2,.ptr b8 0 0),(2,.ptr b11 0 0),(43,Zl (EI .i64) o),(0,.int .i64 (ln o)),(0,.int .i64 x)] 106) ?_;refine Rn.g ?_;refine Ro.t 1 ?_;refine Ro.p (hp.ld 0 (off := 1) (n := some 5) (v := .ag (E_Term.c b.fTerm)) rfl rfl) ?_;refine RunO.alloc hp (by kernel_rfl) ?_;intro b12 H hp;refine RunO.st hp (by kernel_rfl) 0 (off := 0) (v := .ag (E_Term.c b.fTerm)) (cs' := E_Term.c b.fTerm) rfl (by kernel_rfl) (by kernel_rfl) (by kernel_rfl) ?_;intro H hp;refine Ro.d (e25K b2 b5 b8 b11 b12 (E_Graph.e x0) (Zl (EI .i64) o) (Zl (EL (EI .i64)) was) (.int .i64 (ln o)) (.int .i64 x) pl) ?_;refine Run.seq ?_;have hpl : ((some (b11,0),E_Block.c b) :: (some (b8,0),OC x0 (slv 6 true rows.length ob)) :: (ob,rbs rows ++ []) :: robs rows.reverse ++ [OP b5 pl,(some (b2,0),ZG)])[3 + (robs rows.reverse).length]? = some (OP b5 pl) := tl0;refine two25 _ hpl hp ht2 (fun H e he hp => ?_);show Run T (.clr _ (.rgd [11,8,11,11,11,7,11,11,11,11,11] i25r43)) _ _ _;refine Run.clr ?_;rw [he];have hsz : (rows.length + 1) * 64 ≤ 140737488355328 := by omega
    refine row43 hp hclb hsz _ (fun r ob' H e hro hrl' hrt he hp => ?_);show Run T (.clr _ (.rgn i25r49)) _ _ _;refine Run.clr ?_;rw [he];have hwx : IntKind.i64.wrap (x + 1) = ((i + 1 : Nat) : Int) := by rw [hx,wrap64_in (by omega) (by omega)]; omega
    refine Run.rgn (Ro.t 2 (RunO.nil ⟨o.length - (i + 1),by omega,i + 1,_,rows ++ [r],ob',bt',hwx,by omega,rfl,by simp [hrl],?_,?_,hrest,?_,?_,by kernel_rfl⟩))
    · intro q hq';rcases List.mem_append.1 hq' with h | h
      · exact hok q h
      · rw [List.mem_singleton.1 h]; exact hro
    · intro q hq';rcases List.mem_append.1 hq' with h | h
      · exact hbig q h
      · rw [List.mem_singleton.1 h,hrl']; omega
    · rw [← hbs,List.map_append,List.append_assoc];have : RB.b r = ⟨b.fIns,t2⟩ := by unfold RB.b; rw [hrl',hrt]
      rw [List.map_cons,List.map_nil,this]; rfl
    · rw [List.reverse_append]; exact hp
  · refine Run.condF (by rw [decide_eq_false (show ¬ x < ln o by show ¬ x < ((List.length o : Nat) : Int); omega)]; kernel_rfl) ?_;refine Run.exit ?_;have hi2 : i = o.length := by omega
    subst hi2;rw [List.drop_length] at hbt;cases hbt;rw [List.append_nil] at hbs;exact hq rows ob H _ hok hbs hbig (by kernel_rfl) hp
end Go.Eng.Gra
namespace Go.Eng.Gra
open Go Go.Eng
set_option linter.unusedSectionVars false
set_option linter.unusedVariables false
set_option linter.unusedSimpArgs false
set_option maxRecDepth 20000
theorem stC_out {x0 : T_Graph} {n : Nat} {ob : Option (Nat × Nat)} : stC ZG 0 (.ag (OC x0 (slv 6 true n ob))) (some 6) = some (OC x0 (slv 6 true n ob)) := by cases ob <;> rfl
theorem c25 {x0 r : T_Graph} (h : F25 x0 = some r) : Fn T 25 [E_Graph.e x0] [] (fun v hh => deep false hh deepN v = some (E_Graph.e r)) := by
  unfold F25 at h;obtain ⟨o,ho,h⟩ := bind_some h
  split at h
  case isFalse => cases h
  rename_i hsz
  obtain ⟨hb,hol⟩ := hsz;obtain ⟨pl0,hpl0,h⟩ := bind_some h;obtain ⟨pl,hpl,h⟩ := bind_some h;obtain ⟨_,hc1,h⟩ := bind_some h;obtain ⟨_,hc2,h⟩ := bind_some h;obtain ⟨_,hc3,h⟩ := bind_some h;obtain ⟨rfl,hd1⟩ := clo_spec hc1;obtain ⟨rfl,hd2⟩ := clo_spec hc2;obtain ⟨rfl,hd3⟩ := clo_spec hc3;obtain ⟨bs1,hbs1,h⟩ := bind_some h;obtain ⟨bs2,hbs2,rfl⟩ := Option.map_eq_some_iff.1 h;have hpll := setAt_len hpl;refine Fn.enterE t25 (e0 := (mkE [(0,E_Graph.e x0)] 163)) (by kernel_rfl) ?_;show Run T (.fin [some (some 6)] (.clr [] i25n96)) _ _ (finE (some [some (some 6)]) [2] _);refine Run.finb ?_;refine Rn.k (mkE [(0,E_Graph.e x0)] 163) ?_;refine Rn.g ?_;refine Ro.t 1 ?_;refine RunO.alloc HP.nil (by kernel_rfl) ?_;intro b2 H hp;refine Ro.d (mkE [(1,.fp (E_Graph.e x0)),(0,.ptr b2 0 0)] 161) ?_;refine Rn.g ?_;refine Ro.t 1 ?_;refine RunO.c2 (by kernel_rfl) (by kernel_rfl) (by kernel_rfl) (order14 ho) ?_;refine Ro.t 1 ?_;refine RunO.c2 (by kernel_rfl) (by kernel_rfl) (by kernel_rfl) (c13 (r := aheadV x0.fBlocks) (by unfold F13; rw [if_pos hb])) ?_;refine Ro.t 2 ?_;obtain ⟨was,hwas⟩ : ∃ was,aheadV x0.fBlocks = was := ⟨_,rfl⟩;rw [hwas] at hbs2 ⊢;refine Ro.d (mkE [(1,.fp (E_Graph.e x0)),(0,.ptr b2 0 0),(0,Zl (EI .i64) o),(0,Zl (EL (EI .i64)) was)] 159) ?_;refine Rn.g ?_;refine Ro.t 2 ?_;refine Ro.p (len_fz E_Block x0.fBlocks) ?_;refine RunO.mks1 (EI .i64) hp (by kernel_rfl) (a := 0) (n := ((List.length x0.fBlocks : Nat) : Int)) (l := pl0) (by kernel_rfl) (by kernel_rfl) (by kernel_rfl) (by kernel_rfl) (by kernel_rfl) hpl0 ?_;intro b5 H hp;refine Ro.t 1 ?_;refine Ro.d (e25B b2 b5 (E_Graph.e x0) o was pl0.length) ?_;refine Run.seq ?_;refine pl25 _ hp hpl hol (fun H e he hp => ?_);show Run T (.clr _ i25n92) _ _ _;refine Run.clr ?_;rw [he,← hpll];refine Rn.g ?_;refine Ro.t 4 ?_;refine RunO.cl (EI .i64) (n := 43) (by_ := 8) (zero := .int .i64 0) (by kernel_rfl) (l := x0.fParams) (by kernel_rfl) t43 rfl cl43' hd1 ?_;refine Ro.t 4 ?_;refine RunO.cl (EI .u8) (n := 44) (by_ := 1) (zero := .int .u8 0) (by kernel_rfl) (l := x0.fVars) (by kernel_rfl) t44 rfl cl44 hd2 ?_;refine Ro.t 2 ?_;refine RunO.cl E_Array (n := 45) (by_ := 16) (zero := .ag [.int .u8 0,.int .i64 0]) (by kernel_rfl) (l := x0.fArrays) (by kernel_rfl) t45 rfl cl45 hd3 ?_;refine Ro.t 1 ?_;refine RunO.alloc hp (by kernel_rfl) ?_;intro b8 H hp;refine RunO.st hp (by kernel_rfl) 0 (off := 0) (v := .ag (OC x0 .nils)) (cs' := OC x0 .nils) rfl (by kernel_rfl) (by kernel_rfl) (by kernel_rfl) ?_;intro H hp;refine Ro.d (mkE [(1,.fp (E_Graph.e x0)),(0,.ptr b2 0 0),(0,Zl (EI .i64) o),(0,Zl (EL (EI .i64)) was),(0,slv 1 false pl.length (some (b5,0))),(2,.ptr b8 0 0)] 155) ?_;refine Run.seq ?_;refine bl25 _ hol hp hbs1 (fun rows ob H e hok hrows hbig he hp => ?_);show Run T (.clr _ i25n90) _ _ _;refine Run.clr ?_;rw [he];subst hrows;have hrl : rows.length = o.length := by have := omap_len hbs1; rw [List.length_map] at this; exact this
  refine Run.seq ?_;refine Rn.g ?_;refine Ro.p (hp.ld 0 (off := 0) (n := some 6) (v := .ag (OC x0 (slv 6 true rows.length ob))) rfl (by cases ob <;> rfl)) ?_;have hda : omap (deep false H deepN) [.ag (OC x0 (slv 6 true rows.length ob))] = some [E_Graph.e (blocksOf x0 (rows.map RB.b))] := omapc (deep_out (rows_deep2 hp hok)) rfl;have hF : F13 (blocksOf x0 (rows.map RB.b)) = some (aheadV (rows.map RB.b)) := by unfold F13; exact if_pos (by show (rows.map RB.b).length ≤ 1048576; rw [List.length_map]; omega)
  refine RunO.c1 (us := [E_Graph.e (blocksOf x0 (rows.map RB.b))]) (by kernel_rfl) ?_ (c13s hF _) ?_
  · show omap (deep false H deepN) _ = _;refine Eq.trans ?_ hda
    kernel_rfl
  refine Ro.p (len_fz (EL (EI .i64)) (aheadV (rows.map RB.b))) ?_;refine Ro.t 1 ?_;refine Ro.d (e25Q b2 b8 o was (aheadV (rows.map RB.b)) 0) ?_;refine half25 _ hok hbig (by unfold aheadV; rw [aheadS_len,List.length_map]) (by omega) hp hbs2 (fun rows2 H e hok2 hrows2 hrl2 he hp => ?_);show Run T (.clr _ i25n89) _ _ _;refine Run.clr ?_;rw [he];refine Rn.g ?_;have hv : ldV H (.ptr b8 0 0) (some 6) = some (.ag (OC x0 (slv 6 true rows2.length ob))) := hp.ld 0 (off := 0) (n := some 6) rfl (by cases ob <;> rfl);refine Ro.p hv ?_;refine RunO.st hp (by kernel_rfl) (3 + (robs rows2.reverse).length) (off := 0) (v := .ag (OC x0 (slv 6 true rows2.length ob))) (cs' := OC x0 (slv 6 true rows2.length ob)) tl1 (by kernel_rfl) (by kernel_rfl) stC_out ?_;intro H hp;rw [tl_set] at hp;refine Ro.d (mkE [(2,.ptr b2 0 0)] 161) ?_;refine Run.ret ?_;have hw : ldV H (.ptr b2 0 0) (some 6) = some (.ag (OC x0 (slv 6 true rows2.length ob))) := hp.ld _ (off := 0) (n := some 6) tl1 (by cases ob <;> rfl);refine ⟨_,resW_cells (vs := [.ag (OC x0 (slv 6 true rows2.length ob))]) ?_,?_⟩
  · exact omapc hw rfl
  · have := deep_out (x0 := x0) (rows_deep2 hp hok2);rw [hrows2] at this;exact this
end Go.Eng.Gra
namespace Go.Eng.Gra
open Go Go.Eng
set_option linter.unusedSectionVars false
set_option linter.unusedVariables false
set_option linter.unusedSimpArgs false
structure EIn (n : Nat) (t : T_Term) : Prop where
  a0 : goV t 0 = true → 0 < t.fTo.a0 ∧ t.fTo.a0 < (n : Int)
  a1 : goV t 1 = true → 0 < t.fTo.a1 ∧ t.fTo.a1 < (n : Int)
theorem slotT {ord pl : List Int} {n : Nat} (hord : Sz ord) (hn : pl.length = n) (hpl : ∀ (j v : Nat),ord[j]? = some (v : Int) → pl[v]? = some ((0 + j + 1 : Nat) : Int))
    (t : T_Term) (k : Nat) (to : Int) (hE : goV t k = true → 0 ≤ to ∧ to < (n : Int) ∧ to ∈ ord) :
    ∃ v,trTo pl t k to = some v ∧ (goV t k = true → ∃ j : Nat,ord[j]? = some to ∧ v = (j : Int)) ∧ (goV t k = false → v = to) := by
  unfold trTo;rw [hn];cases hg : goV t k
  · exact ⟨to,by simp,fun h => (by cases h),fun _ => rfl⟩
  obtain ⟨h0,h1,hm⟩ := hE hg;obtain ⟨j,hj⟩ := List.getElem?_of_mem hm;have hjl := lt_of hj;obtain ⟨tn,rfl⟩ : ∃ tn : Nat,to = (tn : Int) := ⟨to.toNat,by omega⟩;have h3 := hpl j tn hj;refine ⟨(j : Int),?_,fun _ => ⟨j,hj,rfl⟩,fun h => (by cases h)⟩;rw [decide_eq_true (show 0 ≤ (tn : Int) ∧ (tn : Int) < (n : Int) from ⟨h0,h1⟩)];simp only [Bool.and_self,if_true];rw [idx_some h3,Option.map_some];have hw : Go.Eng.w64 (((0 + j + 1 : Nat) : Int) - 1) = (j : Int) := by
    unfold Sz at hord;show IntKind.i64.wrap _ = _;rw [wrap64_in (by omega) (by omega)]; omega
  rw [hw]
theorem blocksT {bs : List T_Block} {ord pl : List Int} (ho : OrdOk bs ord) (hord : Sz ord) (hn : pl.length = bs.length) (hpl : ∀ (j v : Nat),ord[j]? = some (v : Int) → pl[v]? = some ((0 + j + 1 : Nat) : Int)) (hi : ∀ b ∈ bs,b.fIns.length * 56 ≤ 140737488355328) (hE : ∀ b ∈ bs,EIn bs.length b.fTerm) :
    ∀ (l : List Int),(∀ k ∈ l,k ∈ ord) → ∃ bs1,omap (trB bs pl) l = some bs1 ∧ bs1.length = l.length ∧ ∀ (j : Nat) (k : Int),l[j]? = some k → ∃ b b1,bs[k.toNat]? = some b ∧ bs1[j]? = some b1 ∧ TE ord b.fTerm b1.fTerm ∧ b1.fIns = b.fIns
  | [],_ => ⟨[],rfl,rfl,fun j k h => by simp at h⟩
  | k :: l,hl => by
    obtain ⟨r,e1,e3,e4⟩ := blocksT ho hord hn hpl hi hE l (fun q hq => hl q (List.mem_cons_of_mem _ hq));have hk := hl k (List.mem_cons_self ..);have hr := ho.rng k hk;have hkb : bs[k.toNat]? = some (bs[k.toNat]'(by omega)) := List.getElem?_eq_getElem (by omega)
    generalize bs[k.toNat]'(by omega) = b at hkb
    have hx : idx bs k = some b := by unfold idx; rw [if_pos hr.1]; exact hkb
    have hbm := List.mem_of_getElem? hkb;have hEb := hE b hbm;obtain ⟨v0,f0,g0,n0⟩ := slotT hord hn hpl b.fTerm 0 b.fTerm.fTo.a0 (fun g => by
      have := hEb.a0 g;exact ⟨by omega,this.2,ho.clo k hk b hkb _ ⟨by omega,this.2,.inl ⟨g,rfl⟩⟩⟩)
    obtain ⟨v1,f1,g1,n1⟩ := slotT hord hn hpl b.fTerm 1 b.fTerm.fTo.a1 (fun g => by
      have := hEb.a1 g;exact ⟨by omega,this.2,ho.clo k hk b hkb _ ⟨by omega,this.2,.inr ⟨g,rfl⟩⟩⟩)
    have : trB bs pl k = some ⟨b.fIns,{ b.fTerm with fTo := ⟨v0,v1⟩ }⟩ := by
      unfold trB trTm;rw [hx,Option.bind_some,f0,Option.bind_some,f1,Option.map_some,Option.bind_some];unfold clo;rw [if_pos (hi b hbm)]; rfl
    refine ⟨⟨b.fIns,{ b.fTerm with fTo := ⟨v0,v1⟩ }⟩ :: r,by simp only [omap,this,e1],by simp [e3],fun j k' hj => ?_⟩;cases j with
    | zero =>
      cases hj;exact ⟨b,_,hkb,rfl,⟨rfl,rfl,rfl,g0,g1,n0,n1⟩,rfl⟩
    | succ j => exact e4 j k' hj
def insV (wr ord nw : List Int) (x : T_Ins) : T_Ins := if x.fKind = 1 then { x with fArgs := nw.filterMap (GT wr ord x.fArgs) } else x
theorem insT_is {was : List (List Int)} {ord nw wr : List Int} {i : Nat} {k : Int} (h1 : idx ord (i : Int) = some k) (h2 : idx was k = some wr) (h3 : ∀ q ∈ nw,WasT wr ord q) (hnw : nw.length ≤ 100000) (x : T_Ins) (hx : x.fArgs.length ≤ 2000) : insT was ord i nw x = some (insV wr ord nw x) := by
  unfold insT argsT insV
  by_cases hp : x.fKind = 1
  · have hb : (x.fKind == 1) = true := by simp [hp]
    have hl : (nw.filterMap (GT wr ord x.fArgs)).length ≤ nw.length := List.length_filterMap_le ..;rw [hb,if_pos hp];simp only [if_true,h1,Option.bind_some,h2];rw [F47_isT h3 (by omega),Option.bind_some];unfold clo;rw [if_pos (by omega)]; rfl
  · have hb : (x.fKind == 1) = false := by simp [hp]
    rw [hb,if_neg hp];simp only [Bool.false_eq_true,if_false,Option.bind_some];unfold clo;rw [if_pos (by omega)]; rfl
theorem omap_map {α β : Type} {f : α → Option β} {g : α → β} : ∀ (l : List α),(∀ a ∈ l,f a = some (g a)) → omap f l = some (l.map g)
  | [],_ => rfl
  | a :: l,h => by
    have ih := omap_map l (fun b hb => h b (List.mem_cons_of_mem _ hb));simp only [omap,h a (List.mem_cons_self ..),ih,List.map_cons]
theorem rowsT_is {was now : List (List Int)} {ord : List Int} : ∀ (l : List T_Block) (i : Nat),(∀ j,j < l.length → ∃ k wr nw,idx ord ((i + j : Nat) : Int) = some k ∧ idx was k = some wr ∧ idx now ((i + j : Nat) : Int) = some nw ∧ nw.length ≤ 100000 ∧ ∀ q ∈ nw,WasT wr ord q) → (∀ b ∈ l,∀ x ∈ b.fIns,x.fArgs.length ≤ 2000) →
    ∃ r,rowsT was ord now i l = some r ∧ r.length = l.length ∧ ∀ (j : Nat) b,l[j]? = some b → ∃ k wr nw,idx ord ((i + j : Nat) : Int) = some k ∧ idx was k = some wr ∧ idx now ((i + j : Nat) : Int) = some nw ∧ r[j]? = some ⟨b.fIns.map (insV wr ord nw),b.fTerm⟩
  | [],i,_,_ => ⟨[],rfl,rfl,fun j b h => by simp at h⟩
  | b :: l,i,h,hl => by
    obtain ⟨k,wr,nw,h1,h2,h3,h4,h5⟩ := h 0 (by simp);rw [Nat.add_zero] at h1 h3;obtain ⟨r,g1,g2,g3⟩ := rowsT_is l (i + 1) (fun j hj => by
      have := h (j + 1) (by simpa using hj);rw [show i + (j + 1) = i + 1 + j by omega] at this; exact this) (fun b hb => hl b (List.mem_cons_of_mem _ hb))
    have e := omap_map (f := insT was ord i nw) (g := insV wr ord nw) b.fIns (fun x hx => insT_is h1 h2 h5 h4 x (hl b (List.mem_cons_self ..) x hx));refine ⟨⟨b.fIns.map (insV wr ord nw),b.fTerm⟩ :: r,?_,by simp [g2],fun j c hj => ?_⟩
    · simp only [rowsT,h3,Option.bind_some,e,g1,Option.map_some]
    · cases j with
      | zero => cases hj; exact ⟨k,wr,nw,h1,h2,h3,rfl⟩
      | succ j =>
        have := g3 j c hj;rw [show i + 1 + j = i + (j + 1) by omega] at this;exact this
theorem was_iso {bs bs1 : List T_Block} {ord : List Int} (hi : Iso ord bs bs1) (hN : bs.length ≤ 1000) {i : Nat} {k : Int} (hk : ord[i]? = some k) {nw wr : List Int} (hnw : (aheadV bs1)[i]? = some nw) (hwr : (aheadV bs)[k.toNat]? = some wr) : ∀ q ∈ nw,WasT wr ord q := by
  intro q hq;have hil := lt_of hk;have hl := hi.len;have hkr := hi.rng k (List.mem_of_getElem? hk);unfold aheadV at hnw hwr;rw [ahead_row bs1 bs1.length i (Nat.le_refl _) (by omega)] at hnw;rw [ahead_row bs bs.length k.toNat (Nat.le_refl _) (by omega)] at hwr;cases hnw; cases hwr;obtain ⟨b1,hq0,hb1,hin⟩ := row_mem.1 hq;have hql := lt_of hb1;have ha : ord[q.toNat]? = some (ord[q.toNat]'(by omega)) := List.getElem?_eq_getElem (by omega)
  generalize ord[q.toNat]'(by omega) = a at ha
  obtain ⟨b,b1',hb,hb1',te⟩ := hi.blk q.toNat a ha;rw [hb1] at hb1'; cases hb1';have har := hi.rng a (List.mem_of_getElem? ha);have hnext : k ∈ nextV b := by
    rw [next_mem] at hin ⊢;rcases hin with ⟨g,e⟩ | ⟨g,e⟩
    · left
      rw [goV_kind te.kind] at g;obtain ⟨j,hj,e2⟩ := te.a0 g;have : j = i := by omega
      subst this;rw [hk] at hj;exact ⟨g,Option.some.inj hj⟩
    · right
      rw [goV_kind te.kind] at g;obtain ⟨j,hj,e2⟩ := te.a1 g;have : j = i := by omega
      subst this;rw [hk] at hj;exact ⟨g,Option.some.inj hj⟩
  have hmem : a ∈ rowP bs bs.length k.toNat := row_mem.2 ⟨b,har.1,hb,by rw [Int.toNat_of_nonneg hkr.1]; exact hnext⟩;have hsz : Sz (rowP bs bs.length k.toNat) := by
    have := aheadS_row bs bs.length _ (List.mem_of_getElem? (ahead_row bs bs.length k.toNat (Nat.le_refl _) (by omega)));unfold Sz; omega
  obtain ⟨p,f1,f3⟩ := F65_sp _ a hsz;rcases f3 with ⟨_,f3⟩ | ⟨j,rfl,f3⟩
  · exact absurd hmem f3
  · exact ⟨a,j,by unfold idx; rw [if_pos hq0]; exact ha,f1,f3⟩
theorem aheadS_congr {bs bs' : List T_Block} (hl : bs.length = bs'.length) (h : ∀ j : Nat,(bs[j]?).map nextV = (bs'[j]?).map nextV) : ∀ i : Nat,aheadS bs i = aheadS bs' i
  | 0 => by simp only [aheadS,hl]
  | i + 1 => by
    have ih := aheadS_congr hl h i;have hh := h i;simp only [aheadS];cases h1 : bs[i]? with
    | none =>
      rw [h1] at hh;cases h2 : bs'[i]? with
      | none => exact ih
      | some b' => rw [h2] at hh; cases hh
    | some b =>
      rw [h1] at hh;cases h2 : bs'[i]? with
      | none => rw [h2] at hh; cases hh
      | some b' =>
        rw [h2] at hh;have := Option.some.inj hh;simp only [this,ih,hl]
theorem next_term {b b' : T_Block} (h : b.fTerm = b'.fTerm) : nextV b = nextV b' := by unfold nextV; rw [h]
structure TrimOf (g : T_Graph) (ord : List Int) (bs : List T_Block) : Prop where
  ok : OrdOk g.fBlocks ord
  iso : Iso ord g.fBlocks bs
  ins : ∀ (j : Nat) (k : Int) b,ord[j]? = some k → g.fBlocks[k.toNat]? = some b → ∃ b1 nw wr,bs[j]? = some b1 ∧ (aheadV bs)[j]? = some nw ∧ (aheadV g.fBlocks)[k.toNat]? = some wr ∧ b1.fIns = b.fIns.map (insV wr ord nw) ∧ ∀ q ∈ nw,WasT wr ord q
theorem trim_of {g : T_Graph} (hb : g.fBlocks.length ≤ 400) (hpp : g.fParams.length ≤ 2000) (hvv : g.fVars.length ≤ 2000) (haa : g.fArrays.length ≤ 2000) (hins : ∀ b ∈ g.fBlocks,b.fIns.length ≤ 2000) (hargs : ∀ b ∈ g.fBlocks,∀ x ∈ b.fIns,x.fArgs.length ≤ 2000) (hE : ∀ b ∈ g.fBlocks,EIn g.fBlocks.length b.fTerm) :
    ∃ ord bs,orderV g = some ord ∧ F25 g = some { g with fBlocks := bs } ∧ TrimOf g ord bs := by
  obtain ⟨ord,hord,ho⟩ := order_ok g hb;have hlen := ho.len;have hsz : Sz ord := by unfold Sz; omega
  obtain ⟨pl,e1,e2,_,e4⟩ := setAt_spT ord 0 (List.replicate g.fBlocks.length (0 : Int)) (fun v hv => by rw [List.length_replicate]; exact ho.rng v hv) ho.nd;rw [List.length_replicate] at e2;obtain ⟨bs1,f1,f3,f4⟩ := blocksT ho hsz e2 e4 (fun b hb => by have := hins b hb; omega) hE ord (fun _ h => h);have hiso : Iso ord g.fBlocks bs1 := ⟨f3,ho.nd,ho.rng,fun j k hj => by
    obtain ⟨b,b1,q1,q2,q3,_⟩ := f4 j k hj;exact ⟨b,b1,q1,q2,q3⟩⟩
  have row : ∀ j,j < bs1.length → ∃ k wr nw,ord[j]? = some k ∧ (aheadV g.fBlocks)[k.toNat]? = some wr ∧ (aheadV bs1)[j]? = some nw ∧ 0 ≤ k := by
    intro j hj;have hjo : j < ord.length := by omega
    have hk : ord[j]? = some ord[j] := List.getElem?_eq_getElem hjo
    generalize ord[j] = k at hk
    have hkr := ho.rng k (List.mem_of_getElem? hk);exact ⟨k,_,_,hk,List.getElem?_eq_getElem (by unfold aheadV; rw [aheadS_len]; omega),List.getElem?_eq_getElem (by unfold aheadV; rw [aheadS_len]; exact hj),hkr.1⟩
  obtain ⟨r,g1,g2,g3⟩ := rowsT_is (was := aheadV g.fBlocks) (now := aheadV bs1) (ord := ord) bs1 0 (fun j hj => by
    obtain ⟨k,wr,nw,h1,h2,h3,h4⟩ := row j hj;rw [Nat.zero_add];refine ⟨k,wr,nw,idx_some h1,?_,idx_some h3,?_,was_iso hiso (by omega) h1 h3 h2⟩
    · unfold idx; rw [if_pos h4]; exact h2
    · have := aheadS_row bs1 _ nw (List.mem_of_getElem? h3)
      omega) (fun b1 hb1 x hx => by
    obtain ⟨j,hj⟩ := List.getElem?_of_mem hb1;have hjl := lt_of hj;obtain ⟨b,b1',q1,q2,_,q4⟩ := f4 j _ (List.getElem?_eq_getElem (show j < ord.length by omega));rw [hj] at q2; cases q2;rw [q4] at hx;exact hargs b (List.mem_of_getElem? q1) x hx)
  have hah : aheadV r = aheadV bs1 := by
    unfold aheadV;rw [g2];refine aheadS_congr g2 (fun j => ?_) _
    by_cases hj : j < bs1.length
    · have hb1 : bs1[j]? = some bs1[j] := List.getElem?_eq_getElem hj;obtain ⟨_,_,_,_,_,_,h4⟩ := g3 j _ hb1;rw [h4,hb1]; rfl
    · rw [List.getElem?_eq_none (by omega),List.getElem?_eq_none (by omega)]
  refine ⟨ord,r,hord,?_,ho,⟨g2.trans f3,ho.nd,ho.rng,fun j k hj => ?_⟩,fun j k b hj hbk => ?_⟩
  · unfold F25;rw [hord,Option.bind_some,if_pos ⟨by omega,by omega⟩,made_nat (by omega) (by omega),Option.bind_some,e1,Option.bind_some];unfold clo;rw [if_pos (by omega),Option.bind_some,if_pos (by omega),Option.bind_some,if_pos (by omega),Option.bind_some,f1,Option.bind_some,g1]; rfl
  · obtain ⟨b,b1,q1,q2,q3,_⟩ := f4 j k hj;obtain ⟨_,_,_,_,_,_,h4⟩ := g3 j _ q2;exact ⟨b,_,q1,h4,q3⟩
  · obtain ⟨b',b1,q1,q2,q3,q4⟩ := f4 j k hj;rw [hbk] at q1; cases q1;have hkr := ho.rng k (List.mem_of_getElem? hj);obtain ⟨k',wr,nw,h1,h2,h3,h4⟩ := g3 j _ q2;rw [Nat.zero_add] at h1 h3;rw [idx_some hj] at h1; cases h1;have h3' := (idx_lt h3).2.2;have h2' := (idx_lt h2).2.2;rw [Int.toNat_natCast] at h3';rw [hah];exact ⟨_,nw,wr,h4,h3',h2',by show List.map _ b1.fIns = _; rw [q4],was_iso hiso (by omega) hj h3' h2'⟩
end Go.Eng.Gra
