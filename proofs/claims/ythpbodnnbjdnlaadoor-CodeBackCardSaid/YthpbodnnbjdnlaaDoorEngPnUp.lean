/- Functions of this seat, run on unknown values by the rules of the small machine (no condition beyond those stated). -/
import Derived.Test.YthpbodnnbjdnlaaDoorEngM1
import Derived.Test.YthpbodnnbjdnlaaDoorEngJUp
namespace Go.Eng
open Go
set_option linter.unusedSectionVars false
set_option linter.unusedVariables false
set_option linter.unusedSimpArgs false
variable [Glob]
section
variable {wr : Nat → Prop} {W : World} {own : Own} {P : Program}
theorem pcallP_sim {F : FT} (hP : PSim P F) {H : Heap} (s : Rd wr W own H) {g : Nat} {args us : List V} {p : Bool} {r pv : V} {Hc : Heap} (hus : omap (deep false H deepN) args = some us) (hr : F.x g us [] = some (p,r,Hc)) (hd : deep (!args.all (V.free deepN)) Hc deepN r = some pv)
    {vals : Array Value} (hl : args.length = vals.size) (hargs : ∀ (j : Nat) (c : V),args[j]? = some c → VR wr W own c (vals.getD j undef)) :
    FOk P g ∧ Calls P g vals W fun e w' => ∃ v',Ends p v' e ∧ Gl W w' ∧ VR wr w' own pv v' := by
  obtain ⟨hok,hsim⟩ := hP g us [] p r Hc hr;refine ⟨hok,?_⟩;obtain ⟨o1,o2⟩ := omap_spec hus
  by_cases hfree : args.all (V.free deepN) = true
  · have eus : us = args.map (nz deepN) := by
      have : omap (deep false H deepN) args = some (args.map (nz deepN)) := omap_to (fun x hx => deep_free deepN (List.all_eq_true.mp hfree x hx));rw [this] at hus; cases hus; rfl
    subst eus;refine (hsim wr W own0 vals (St.nil s.wr_lt s.glob) (by simpa using hl) (fun j c hj => ?_)).mono ?_
    · simp only [List.getElem?_map,Option.map_eq_some_iff] at hj;obtain ⟨d,hd,rfl⟩ := hj;exact (VR.of_free deepN (List.all_eq_true.mp hfree d (List.mem_of_getElem? hd)) (hargs j d hd)).nz deepN
    rintro e w' ⟨v',wr',own',he,hext,hst,hvr⟩;have hgl : Gl W w' := ⟨hext.size,fun b hb => hext.same b hb (by rintro ⟨x,y,sh,N,ho⟩; simp [own0] at ho),hext.io⟩;refine ⟨v',he,hgl,?_⟩;have hd' : deep false Hc deepN r = some pv := by simpa [hfree] using hd
    exact VR.mono ⟨Nat.le_refl _,fun _ _ h => h,fun _ _ _ => rfl⟩ (fun b g x h => by simp [own0] at h) (deep_sound hst.toRd (wr2 := wr) (fun b g cb sh N ho hw => by
      rcases hext.news cb ⟨_,_,_,_,ho⟩ with ⟨x,y,sh',N',h⟩ | h
      · simp [own0] at h
      · have := s.wr_lt _ hw; omega) (.inr hext.wr_le) deepN hd' hvr)
  · have hfree' : args.all (V.free deepN) = false := by simpa using hfree
    have hus2 : ∀ (j : Nat) (c : V),us[j]? = some c → VR (fun _ => False) W own0 c (vals.getD j undef) := by
      intro j c hj;have hlt : j < args.length := by rw [o1]; exact (List.getElem?_eq_some_iff.mp hj).1
      obtain ⟨b,hb,hdd⟩ := o2 j _ (List.getElem?_eq_getElem hlt);rw [hj] at hb; cases hb;exact deep_sound s (wr2 := fun _ => False) (fun _ _ _ _ _ _ h => h) (.inr (fun _ h => h.elim)) deepN hdd (hargs j _ (List.getElem?_eq_getElem hlt))
    refine (hsim (fun _ => False) W own0 vals (St.nil (fun _ h => h.elim) (s.glob.mono ⟨Nat.le_refl _,fun _ _ h => h.elim,fun _ _ _ => rfl⟩)) (by omega) hus2).mono ?_;rintro e w' ⟨v',wr',own',he,hext,hst,hvr⟩;have hgl : Gl W w' := ⟨hext.size,fun b hb => hext.same b hb (by rintro ⟨x,y,sh,N,ho⟩; simp [own0] at ho),hext.io⟩;refine ⟨v',he,hgl,?_⟩;have hd' : deep true Hc deepN r = some pv := by simpa [hfree'] using hd
    exact VR.mono ⟨Nat.le_refl _,fun _ _ h => h,fun _ _ _ => rfl⟩ (fun b g x h => by simp [own0] at h) (deep_sound hst.toRd (wr2 := wr) (fun b g cb sh N ho hw => by
      rcases hext.news cb ⟨_,_,_,_,ho⟩ with ⟨x,y,sh',N',h⟩ | h
      · simp [own0] at h
      · have := s.wr_lt _ hw; omega) (.inl rfl) deepN hd' hvr)
theorem callP_sim {F : FT} (hP : PSim P F) {c : Call} {dst : Option Tmp} {ty : TypeId} {pos : Nat} {after : Array Edge} {guard : Option (Nat × Bool)} {hp : Bool} {f : Opd} {args : List Opd} {o : Oper} (ho : o.op = .call c)
    (h1 : (match c.callee with | .value f' => chkOpd f' f | _ => false) = true) (h2 : all2 chkOpd c.args.toList args = true) {H H' : Heap} {env : List V} {a : Act} (s : Sim wr W own H env a.tmps) {b : Bool} {v : V}
    (h : callX F H hp (f.ev env) (args.map (·.ev env)) = some (b,v,H')) {K : Act → World → Prop} {Q : Exit → Act → World → Prop}
    (hK : b = false → ∀ W' wr' own' val,Ext wr W own wr' W' own' → St wr' W' own' H' → VR wr' W' own' v val → K (a.put o.dst val) W')
    (hQ : b = true → ∀ W' wr' own' val,Ext wr W own wr' W' own' → St wr' W' own' H' → VR wr' W' own' v val → Q (.panic [{ v := val,recovered := false }]) a W') : o.wp P a W K Q := by
  split at h1
  case h_2 => cases h1
  rename_i f' hc
  have hf := opd_sim s.st.glob s.vals h1;obtain ⟨a1,a2⟩ := args_sim s.st.glob s.vals h2;have hx : execOp a.eval o = (do let d ← resolve a.eval c o.type; invoke d.target d.args) := by unfold execOp; rw [ho]
  unfold callX at h;cases hp with
  | true =>
    simp only [if_true] at h
    split at h
    · rename_i g caps hgf
      rw [hgf] at hf
      generalize hfe : a.eval f' = w at hf
      cases hf with
      | fn hl hcv =>
        rename_i arr
        obtain ⟨hok,hsim⟩ := hP g _ H b v H' h;have hcl := hsim wr W own (c.args.map a.eval ++ arr) s.st (by rw [List.length_append,a1,hl,Array.size_append]) (fun j d hj => by
          rcases Nat.lt_or_ge j (args.map (·.ev env)).length with hlt | hge
          · rw [List.getElem?_append_left hlt] at hj;have := a2 j d hj;have hlt' : j < (c.args.map a.eval).size := by rw [← a1]; exact hlt
            rw [getD_of_some (Array.getElem?_eq_getElem hlt')] at this;rw [getD_of_some (x := (c.args.map a.eval)[j]) (by rw [Array.getElem?_append_left hlt']; exact Array.getElem?_eq_getElem hlt')]; exact this
          · rw [List.getElem?_append_right hge] at hj;have := hcv _ d hj;have hlt' : j - (args.map (·.ev env)).length < arr.size := by rw [← hl]; exact (List.getElem?_eq_some_iff.mp hj).1
            rw [getD_of_some (Array.getElem?_eq_getElem hlt')] at this;rw [getD_of_some (x := arr[j - (args.map (·.ev env)).length]) (by
              rw [Array.getElem?_append_right (by rw [← a1]; exact hge)];rw [← a1]; exact Array.getElem?_eq_getElem hlt')]; exact this)
        unfold Oper.wp;rw [hx,call_run (P := P) (c := c) (ty := o.type) (W := W) hc hfe hok,Oper.upon_enter];refine hcl.mono ?_;rintro e w' ⟨v',wr',own',he,g1,g2,g3⟩;cases b with
        | true => cases he; exact hQ rfl w' wr' own' v' g1 g2 g3
        | false => cases he; exact hK rfl w' wr' own' v' g1 g2 g3
    · rename_i g first hgf
      rw [hgf] at hf
      generalize hfe : a.eval f' = w at hf
      cases hf with
      | bm hl hcv =>
        rename_i arr
        obtain ⟨hok,hsim⟩ := hP g _ H b v H' h;have hcl := hsim wr W own (arr ++ c.args.map a.eval) s.st (by rw [List.length_append,a1,hl,Array.size_append]) (fun j d hj => by
          rcases Nat.lt_or_ge j first.length with hlt | hge
          · rw [List.getElem?_append_left hlt] at hj;have := hcv j d hj;have hlt' : j < arr.size := by rw [← hl]; exact hlt
            rw [getD_of_some (Array.getElem?_eq_getElem hlt')] at this;rw [getD_of_some (x := arr[j]) (by rw [Array.getElem?_append_left hlt']; exact Array.getElem?_eq_getElem hlt')]; exact this
          · rw [List.getElem?_append_right hge] at hj;have := a2 _ d hj;have hlt' : j - first.length < (c.args.map a.eval).size := by rw [← a1]; exact (List.getElem?_eq_some_iff.mp hj).1
            rw [getD_of_some (Array.getElem?_eq_getElem hlt')] at this;rw [getD_of_some (x := (c.args.map a.eval)[j - first.length]) (by
              rw [Array.getElem?_append_right (by rw [← hl]; exact hge)];rw [← hl]; exact Array.getElem?_eq_getElem hlt')]; exact this)
        unfold Oper.wp;rw [hx,call_run_m (P := P) (c := c) (ty := o.type) (W := W) hc hfe hok,Oper.upon_enter];refine hcl.mono ?_;rintro e w' ⟨v',wr',own',he,g1,g2,g3⟩;cases b with
        | true => cases he; exact hQ rfl w' wr' own' v' g1 g2 g3
        | false => cases he; exact hK rfl w' wr' own' v' g1 g2 g3
    · cases h
  | false =>
    simp only [Bool.false_eq_true,if_false] at h
    split at h
    case h_2 => cases h
    rename_i g hgf
    simp only [Option.bind_eq_some_iff] at h;obtain ⟨us,hus,⟨p,r,Hc⟩,hr,h⟩ := h;simp only [Option.map_eq_some_iff,Prod.mk.injEq] at h;obtain ⟨w,hd,rfl,rfl,rfl⟩ := h;rw [hgf] at hf;obtain ⟨hok,hcl⟩ := pcallP_sim hP s.st.toRd hus hr hd a1 a2;have hfe := hf.fn_nil;unfold Oper.wp;rw [hx,call_run (P := P) (c := c) (ty := o.type) (W := W) hc hfe hok,Oper.upon_enter];simp only [Array.append_empty];refine hcl.mono ?_;rintro e w' ⟨v',he,g1,g2⟩;cases p with
    | true => cases he; exact hQ rfl w' wr own v' (Ext.of_gl g1) (s.st.gl g1) g2
    | false => cases he; exact hK rfl w' wr own v' (Ext.of_gl g1) (s.st.gl g1) g2
theorem exKX_sim {F : FT} (hF : FSim P F) (hP : PSim P F) {o : Oper} {i : IOp} (hd : o.dst = i.dst) (hk : chkK P o.op i.k = true) {H H' : Heap} {env env' : List V} {a : Act} (s : Sim wr W own H env a.tmps) {p : Option V}
    (h : exKX F i env H = some (p,env',H')) {K : Act → World → Prop} {Q : Exit → Act → World → Prop}
    (hK : p = none → ∀ a' W' wr' own',Ext wr W own wr' W' own' → Sim wr' W' own' H' env' a'.tmps → a'.defers = a.defers → K a' W')
    (hQ : ∀ pv,p = some pv → ∀ W' wr' own' val,Ext wr W own wr' W' own' → Sim wr' W' own' H' env' a.tmps → VR wr' W' own' pv val → Q (.panic [{ v := val,recovered := false }]) a W') : o.wp P a W K Q := by
  unfold exKX at h
  split at h
  · rename_i hp f args hik
    split at h
    · cases h
    rename_i hlo
    simp only [Option.map_eq_some_iff] at h;obtain ⟨⟨b,v,H2⟩,hc,h⟩ := h;rw [hik] at hk;have hop : ∃ c,o.op = .call c := by
      unfold chkK at hk
      split at hk <;> first | (rename_i c _ _ _; exact ⟨c,by assumption⟩) | (rename_i c _ _ _ _; exact ⟨c,by assumption⟩) | (cases hk; done) | skip
      all_goals simp_all
    obtain ⟨c,hop⟩ := hop;rw [hop] at hk;simp only [chkK,Bool.and_eq_true] at hk;refine callP_sim hP (dst := none) (ty := 0) (pos := 0) (after := #[]) (guard := none) hop hk.1 hk.2 s hc (fun hb W' wr' own' val e1 e2 e3 => ?_) (fun hb W' wr' own' val e1 e2 e3 => ?_)
    · subst hb;simp only [Bool.false_eq_true,if_false,Prod.mk.injEq] at h;obtain ⟨rfl,rfl,rfl⟩ := h;rw [hd];obtain ⟨p1,p2,p3⟩ := put_sim (Sim.mono s.st e1 s.vals) s.sz e3 i.dst;exact hK rfl _ W' wr' own' e1 ⟨e2,p1,p2⟩ p3
    · subst hb;simp only [if_true,Prod.mk.injEq] at h;obtain ⟨rfl,rfl,rfl⟩ := h;exact hQ v rfl W' wr' own' val e1 ⟨e2,Sim.mono s.st e1 s.vals,s.sz⟩ e3
  · simp only [Option.map_eq_some_iff,Prod.mk.injEq] at h;obtain ⟨⟨e,H2⟩,hc,rfl,rfl,rfl⟩ := h;exact exK_sim hF hd hk s hc (hK rfl)
theorem exOpX_sim {F : FT} (hF : FSim P F) (hP : PSim P F) {ops : Array Oper} {o : Oper} {i : IOp} (hc : chkOp P ops o i = true) {H H' : Heap} {env env' : List V} {a : Act} (s : Sim wr W own H env a.tmps) {p : Option V}
    (h : exOpX F i env H = some (p,env',H')) {K : Act → World → Prop} {Q : Exit → Act → World → Prop}
    (hK : p = none → ∀ a' W' wr' own',Ext wr W own wr' W' own' → Sim wr' W' own' H' env' a'.tmps → a'.defers = a.defers → K a' W')
    (hQ : ∀ pv,p = some pv → ∀ W' wr' own' val,Ext wr W own wr' W' own' → Sim wr' W' own' H' env' a.tmps → VR wr' W' own' pv val → Q (.panic [{ v := val,recovered := false }]) a W') :
    if Region.wanted o (yielded ops a.tmps) then o.wp P a W K Q ∨ (o.asks P a W ∧ LetsOut Q) else K (a.put o.dst undef) W := by
  simp only [chkOp,Bool.and_eq_true,beq_iff_eq] at hc;obtain ⟨⟨hd,hk⟩,hg⟩ := hc;have skip : p = none → H' = H → env' = put env i.dst .sk → K (a.put o.dst undef) W := by
    rintro hp rfl rfl;rw [hd];obtain ⟨p1,p2,p3⟩ := put_sim s.vals s.sz (.sk (wr := wr) (W := W) (own := own)) i.dst;exact hK hp _ W wr own (Ext.refl _ _ _) ⟨s.st,p1,p2⟩ p3
  unfold exOpX at h;cases hog : o.guard with
  | none =>
    rw [hog] at hg;cases hig : i.guard with
    | some p => rw [hig] at hg; cases hg
    | none =>
      rw [hig] at h;rw [if_pos (by simp [Region.wanted,hog])];exact .inl (exKX_sim hF hP hd hk s h hK hQ)
  | some pg =>
    obtain ⟨j,w⟩ := pg;rw [hog] at hg;cases hig : i.guard with
    | none => rw [hig] at hg; cases hg
    | some pg =>
      obtain ⟨t,w'⟩ := pg;rw [hig] at hg h;simp only [Bool.and_eq_true,beq_iff_eq] at hg;obtain ⟨rfl,hj⟩ := hg;obtain ⟨y1,y2⟩ := yielded_of hj (tmps := a.tmps);have hvt := s.vals t
      dsimp only at h
      split at h
      · rename_i b hb
        rw [hb] at hvt;have hy := y1 b hvt.bool_eq
        split at h
        · rename_i hbw
          subst hbw;rw [if_pos (by simp [Region.wanted,hog,hy])];exact .inl (exKX_sim hF hP hd hk s h hK hQ)
        · rename_i hbw
          cases h;rw [if_neg (by simp [Region.wanted,hog,hy,hbw])];exact skip rfl rfl rfl
      · rename_i hb
        rw [hb] at hvt;have hy := y2 (by generalize a.tmps.getD t undef = q at hvt; cases hvt; rfl);cases h;rw [if_neg (by simp [Region.wanted,hog,hy])];exact skip rfl rfl rfl
      · cases h
theorem exOpsX_sim {F : FT} (hF : FSim P F) (hP : PSim P F) {ops : Array Oper} {Q : Exit → Act → World → Prop} : ∀ (l : List Oper) (is : List IOp),all2 (chkOp P ops) l is = true →
    ∀ {wr : Nat → Prop} {W : World} {own : Own} {H H' : Heap} {env env' : List V} {a : Act} {p : Option V},Sim wr W own H env a.tmps → exOpsX F is env H = some (p,env',H') →
    (p = none → ∀ a' W' wr' own',Ext wr W own wr' W' own' → Sim wr' W' own' H' env' a'.tmps → a'.defers = a.defers → Q .normal a' W') →
    (∀ pv,p = some pv → ∀ a' W' wr' own' val,Ext wr W own wr' W' own' → Sim wr' W' own' H' env' a'.tmps → a'.defers = a.defers → VR wr' W' own' pv val → Q (.panic [{ v := val,recovered := false }]) a' W') → wpList P ops Q l a W
  | [],[],_,wr,W,own,H,H',env,env',a,p,s,h,hQ,hR => by
    simp only [exOpsX,Option.some.injEq,Prod.mk.injEq] at h;obtain ⟨rfl,rfl,rfl⟩ := h;exact hQ rfl a W wr own (Ext.refl _ _ _) s rfl
  | o :: l,i :: is,hc,wr,W,own,H,H',env,env',a,p,s,h,hQ,hR => by
    simp only [all2,Bool.and_eq_true] at hc;simp only [exOpsX] at h;unfold wpList;cases h1 : exOpX F i env H with
    | none => rw [h1] at h; cases h
    | some q =>
      obtain ⟨p1,env1,H1⟩ := q;rw [h1] at h;cases p1 with
      | none =>
        refine exOpX_sim hF hP hc.1 s h1 (fun _ a1 W1 wr1 own1 e1 s1 d1 => ?_) (fun pv hp => by cases hp);exact exOpsX_sim hF hP l is hc.2 s1 h (fun hp a2 W2 wr2 own2 e2 s2 d2 => hQ hp a2 W2 wr2 own2 (e1.trans e2) s2 (d2.trans d1)) (fun pv hp a2 W2 wr2 own2 val e2 s2 d2 v2 => hR pv hp a2 W2 wr2 own2 val (e1.trans e2) s2 (d2.trans d1) v2)
      | some pv =>
        simp only [Option.some.injEq,Prod.mk.injEq] at h;obtain ⟨rfl,rfl,rfl⟩ := h;exact exOpX_sim hF hP hc.1 s h1 (fun hp => by cases hp) (fun pv' hp W' wr' own' val e1 s1 v1 => hR pv' hp a W' wr' own' val e1 s1 rfl v1)
  | [],_ :: _,hc,_,_,_,_,_,_,_,_,_,_,_,_,_ => by simp [all2] at hc
  | _ :: _,[],hc,_,_,_,_,_,_,_,_,_,_,_,_,_ => by simp [all2] at hc
end
def chkDrawX (ops : Array Oper) (is : List IOp) (s : Nat) : Bool :=
  let bs := befs ops.toList []
  let pre := fun j i => (bs.getD i 0).testBit j
  decide (s < is.length) &&
  ((List.range ops.size).all (fun i => match ops[i]? with | some o => o.after.toList.all (fun e => !Region.binds .any e || decide (e.on < i)) | none => true) &&
  ((List.range is.length).all (fun j => decide (j ≤ s) || pre s j) &&
  ((List.range s).all (fun j => match is[j]? with | some o => o.k.quiet | none => true) &&
  allPairs (s + 1) (fun i j => i == j || (match is[i]?,is[j]? with
    | some a,some b => (match b.dst with | some t => a.dst != some t && (!a.tm.contains t || pre j i || pre i j) | none => true)
    | _,_ => true)))))
structure DrawX (ops : Array Oper) (is : List IOp) (s : Nat) : Prop where
  lt : s < is.length
  edge : ∀ i o e,ops[i]? = some o → e ∈ o.after.toList → Region.binds .any e = true → e.on < i
  late : ∀ j,s < j → j < is.length → Prec ops s j
  quiet : ∀ (j : Nat) (o : IOp),j < s → is[j]? = some o → o.k.quiet = true
  dst : ∀ (i j t : Nat) (a b : IOp),i ≤ s → j ≤ s → is[i]? = some a → is[j]? = some b → a.dst = some t → b.dst = some t → i = j
  nam : ∀ (i j t : Nat) (a b : IOp),i ≤ s → j ≤ s → i ≠ j → is[i]? = some a → is[j]? = some b → b.dst = some t → t ∈ a.tm → Prec ops j i ∨ Prec ops i j
theorem chkDrawX_spec {ops : Array Oper} {is : List IOp} {s : Nat} (h : chkDrawX ops is s = true) : DrawX ops is s := by
  simp only [chkDrawX,allPairs,Bool.and_eq_true,List.all_eq_true,List.mem_range,decide_eq_true_eq] at h;obtain ⟨h0,h1,h2,h3,h4⟩ := h;have hp := befs_spec (ops := ops) ops.toList [] (fun k o hk => by simpa using hk) (fun m j hj => by simp at hj);have pair : ∀ (i j : Nat) (a b : IOp),i ≤ s → j ≤ s → i ≠ j → is[i]? = some a → is[j]? = some b →
      (match b.dst with | some t => a.dst ≠ some t ∧ (t ∈ a.tm → Prec ops j i ∨ Prec ops i j) | none => True) := by
    intro i j a b hi hj hij ha hb;have := h4 i (by omega) j (by omega);rw [ha,hb] at this;simp only [Bool.or_eq_true,beq_iff_eq,hij,false_or] at this;cases hd : b.dst with
    | none => trivial
    | some t =>
      rw [hd] at this;simp only [Bool.and_eq_true,bne_iff_ne,ne_eq,Bool.or_eq_true,Bool.not_eq_true'] at this;refine ⟨this.1,fun ht => ?_⟩;rcases this.2 with (h | h) | h
      · exfalso; simp at h; exact h ht
      · exact .inl (hp _ _ h)
      · exact .inr (hp _ _ h)
  refine ⟨h0,?_,?_,?_,?_,?_⟩
  · intro i o e ho he hb;have hlt : i < ops.size := (Array.getElem?_eq_some_iff.mp ho).1;have := h1 i hlt;rw [ho] at this;simp only [List.all_eq_true,Bool.or_eq_true,Bool.not_eq_true',decide_eq_true_eq] at this;rcases this e he with h | h
    · rw [hb] at h; cases h
    · exact h
  · intro j hj hjl;have := h2 j hjl;simp only [Bool.or_eq_true,decide_eq_true_eq] at this;rcases this with h | h
    · omega
    · exact hp _ _ h
  · intro j o hj ho;have := h3 j hj;rw [ho] at this;exact this
  · intro i j t a b hi hj ha hb hda hdb
    by_cases hij : i = j
    · exact hij
    · have := pair i j a b hi hj hij ha hb;rw [hdb] at this;exact absurd hda this.1
  · intro i j t a b hi hj hij ha hb hdb ht;have := pair i j a b hi hj hij ha hb;rw [hdb] at this;exact this.2 ht
end Go.Eng
namespace Go.Eng
open Go
set_option linter.unusedSectionVars false
set_option linter.unusedVariables false
set_option linter.unusedSimpArgs false
variable [Glob]
theorem callX_congr {F : FT} {H : Heap} {hp : Bool} {f : Opd} {args : List Opd} {env env2 : List V} (h : Agree env env2 (f.tm ++ args.flatMap Opd.tm)) :
    callX F H hp (f.ev env) (args.map (·.ev env)) = callX F H hp (f.ev env2) (args.map (·.ev env2)) := by
  rw [ev_congr (h.sub (b := f.tm) (fun t ht => List.mem_append_left _ ht)),map_congr_ev (h.sub (b := args.flatMap Opd.tm) (fun t ht => List.mem_append_right _ ht))]
theorem exOpX_congr {F : FT} {o : IOp} {env env' env2 : List V} {H H' : Heap} {pv : V} (h : exOpX F o env H = some (some pv,env',H')) (ha : Agree env env2 o.tm) : ∃ e2,exOpX F o env2 H = some (some pv,e2,H') := by
  have hk : Agree env env2 o.k.tm := ha.sub (fun t ht => by simp [IOp.tm,ht]);have run : exKX F o env H = some (some pv,env',H') → ∃ e2,exKX F o env2 H = some (some pv,e2,H') := by
    intro h;unfold exKX at h ⊢
    split at h
    · rename_i hp f args hik
      split at h
      · cases h
      rename_i hlo
      rw [hik] at hk;simp only [Option.map_eq_some_iff] at h;obtain ⟨⟨b,v,H2⟩,hc,h⟩ := h;cases b with
      | true =>
        simp only [if_true,Prod.mk.injEq,Option.some.injEq] at h;obtain ⟨rfl,rfl,rfl⟩ := h;refine ⟨env2,?_⟩;simp only [hik,if_neg hlo,← callX_congr (F := F) (H := H) (hp := hp) hk,hc,Option.map_some,if_true]
      | false => simp at h
    · simp only [Option.map_eq_some_iff,Prod.mk.injEq,reduceCtorEq,false_and,and_false,exists_false] at h
  unfold exOpX at h ⊢;cases hg : o.guard with
  | none => rw [hg] at h; exact run h
  | some p =>
    obtain ⟨t,w⟩ := p;rw [hg] at h
    dsimp only at h ⊢
    have et : env.getD t .un = env2.getD t .un := ha t (by simp [IOp.tm,hg]);rw [← et];cases hv : env.getD t .un <;> rw [hv] at h <;> dsimp only at h ⊢ <;> (try (cases h; done))
    rename_i b
    by_cases hb : b = w
    · rw [if_pos hb] at h ⊢; exact run h
    · rw [if_neg hb] at h; simp at h
theorem clr_getD : ∀ (ts : List Nat) (env : List V) (t : Nat),(clrEnv ts env).getD t .un = if t ∈ ts then .un else env.getD t .un
  | [],env,t => by simp [clrEnv]
  | d :: ts,env,t => by
    rw [clrEnv,clr_getD ts]
    by_cases ht : t ∈ ts
    · simp [ht]
    · by_cases hd : t = d
      · subst hd
        by_cases hlt : t < env.length <;> simp [ht,List.getD,hlt]
      · simp [ht,hd,List.getD,List.getElem?_set_ne (Ne.symm hd)]
theorem clr_len : ∀ (ts : List Nat) (env : List V),(clrEnv ts env).length = env.length
  | [],env => rfl
  | d :: ts,env => by rw [clrEnv,clr_len ts]; simp
section
variable {P : Program} {F : FT} {ops : Array Oper} {is : List IOp}
theorem drawX_sim (hF : FSim P F) (hP : PSim P F) {Q : Exit → Act → World → Prop} (hc : all2 (chkOp P ops) ops.toList is = true) {s : Nat} (hd : DrawX ops is s) {env0 env1 e' : List V} {H0 H1 H' : Heap} {pv : V} {os : IOp}
    (hex : exOps F ((is.take s).map fun o => { o with lo := false }) env0 H0 = some (env1,H1)) (hos : is[s]? = some os) (hpx : exOpX F os env1 H0 = some (some pv,e',H'))
    {wr0 : Nat → Prop} {W0 : World} {own0' : Own} {a0 : Act} (s0 : Sim wr0 W0 own0' H0 env0 a0.tmps)
    (hQ : ∀ a' W' wr' own' val,Ext wr0 W0 own0' wr' W' own' → Sim wr' W' own' H' (clrEnv (is.filterMap (·.dst)) env0) a'.tmps → a'.defers = a0.defers → VR wr' W' own' pv val → Q (.panic [{ v := val,recovered := false }]) a' W') :
    wpAny P .any ops Q ops.size (Array.replicate ops.size false) a0 W0 := by
  obtain ⟨E,Hs,t1,t2,t3,t4,t5⟩ := exOps_trace _ hex;obtain ⟨c1,c2⟩ := all2_get hc;have hlen : is.length = ops.size := by simpa using c1.symm
  have hsl := hd.lt;have ql : ((is.take s).map fun o => { o with lo := false }).length = s := by simp; omega
  rw [ql] at t3 t4;have qget : ∀ (j : Nat) (o : IOp),j < s → is[j]? = some o → ((is.take s).map fun o => { o with lo := false })[j]? = some { o with lo := false } := by
    intro j o hj ho
    simp [List.getElem?_take,hj,ho]
  have shape : ∀ (i : Nat) (o : IOp),i < s → is[i]? = some o → ∃ v,E (i + 1) = put (E i) o.dst v ∧ Hs (i + 1) = Hs i := by
    intro i o hi ho;obtain ⟨v,h1,h2,_⟩ := exOp_congr (t5 i _ (qget i o hi ho)) (fun t _ => rfl) (fun _ => rfl);exact ⟨v,h1,h2 (hd.quiet i o hi ho)⟩
  have heap : ∀ i,i ≤ s → Hs i = H0 := by
    intro i
    induction i with
    | zero => intro _; exact t2
    | succ i ih =>
      intro hi;obtain ⟨v,_,h2⟩ := shape i is[i] (by omega) (List.getElem?_eq_getElem (by omega));rw [h2,ih (by omega)]
  have lenE : ∀ i,i ≤ s → (E i).length = env0.length := by
    intro i
    induction i with
    | zero => intro _; rw [t1]
    | succ i ih =>
      intro hi;obtain ⟨v,h1,_⟩ := shape i is[i] (by omega) (List.getElem?_eq_getElem (by omega));rw [h1,← ih (by omega)];cases is[i].dst <;> simp [put]
  have envAt : ∀ (t : Nat),(∀ (j : Nat) (o : IOp),j < s → is[j]? = some o → o.dst ≠ some t) → ∀ i,i ≤ s → (E i).getD t .un = env0.getD t .un := by
    intro t ht i
    induction i with
    | zero => intro _; rw [t1]
    | succ i ih =>
      intro hi;have ho := List.getElem?_eq_getElem (l := is) (i := i) (by omega);obtain ⟨v,h1,_⟩ := shape i _ (by omega) ho;rw [h1,← ih (by omega)];have := ht i _ (by omega) ho;cases hdd : is[i].dst with
      | none => rfl
      | some d =>
        have hne : d ≠ t := by rintro rfl; exact this hdd
        simp [put,List.getD,List.getElem?_set_ne hne]
  have envAt2 : ∀ (t j : Nat) (o : IOp),j < s → is[j]? = some o → o.dst = some t → ∀ i,i ≤ s → (E i).getD t .un = if j < i then env1.getD t .un else env0.getD t .un := by
    intro t j o hjs hj hdj;have other : ∀ i,i < s → i ≠ j → (E (i + 1)).getD t .un = (E i).getD t .un := by
      intro i hi hij;have ho := List.getElem?_eq_getElem (l := is) (i := i) (by omega);obtain ⟨v,h1,_⟩ := shape i _ hi ho;rw [h1];cases hdd : is[i].dst with
      | none => rfl
      | some d =>
        have hne : d ≠ t := by rintro rfl; exact hij (hd.dst i j d _ _ (by omega) (by omega) ho hj hdd hdj)
        simp [put,List.getD,List.getElem?_set_ne hne]
    have low : ∀ i,i ≤ j → (E i).getD t .un = env0.getD t .un := by
      intro i
      induction i with
      | zero => intro _; rw [t1]
      | succ i ih => intro hi; rw [other i (by omega) (by omega),ih (by omega)]
    have high : ∀ d,j + 1 + d ≤ s → (E (j + 1 + d)).getD t .un = (E (j + 1)).getD t .un := by
      intro d
      induction d with
      | zero => intro _; rfl
      | succ d ih => intro hi; rw [show j + 1 + (d + 1) = (j + 1 + d) + 1 by omega,other (j + 1 + d) (by omega) (by omega),ih (by omega)]
    intro i hi
    split
    · rename_i hji
      have e1 := high (i - (j + 1)) (by omega);have e2 := high (s - (j + 1)) (by omega);rw [show j + 1 + (i - (j + 1)) = i by omega] at e1;rw [show j + 1 + (s - (j + 1)) = s by omega,t3] at e2;rw [e1,e2]
    · exact low i (by omega)
  suffices key : ∀ (fuel : Nat) (l : Array Bool) (a : Act) (W : World) (wr : Nat → Prop) (own : Own),l.size = ops.size → Ext wr0 W0 own0' wr W own →
      (∀ (i : Nat) (o : Oper) (e : Edge),l.getD i false = true → ops[i]? = some o → e ∈ o.after.toList → Region.binds .any e = true → l.getD e.on false = true) →
      (∀ i,l.getD i false = true → i < s) →
      St wr W own H0 → env0.length ≤ a.tmps.size → a.defers = a0.defers →
      (∀ (t : Nat),(∀ (j : Nat) (o : IOp),j < s → is[j]? = some o → o.dst ≠ some t) → VR wr W own (env0.getD t .un) (a.tmps.getD t undef)) →
      (∀ (t j : Nat) (o : IOp),j < s → is[j]? = some o → o.dst = some t → VR wr W own (if l.getD j false = true then env1.getD t .un else env0.getD t .un) (a.tmps.getD t undef)) →
      ((List.range ops.size).filter (fun i => !l.getD i false)).length ≤ fuel →
      wpAny P .any ops Q fuel l a W by
    have hf : ∀ (j : Nat),(Array.replicate ops.size false).getD j false = false := by
      intro j;simp only [Array.getD_eq_getD_getElem?,Array.getElem?_replicate]; split <;> rfl
    refine key ops.size _ a0 W0 wr0 own0' (by simp) (Ext.refl _ _ _) ?_ ?_ s0.st s0.sz rfl (fun t _ => s0.vals t) ?_ ?_
    · intro i o e hl; rw [hf] at hl; cases hl
    · intro i hl; rw [hf] at hl; cases hl
    · intro t j o _ _ _; rw [hf]; simpa using s0.vals t
    · exact Nat.le_trans (List.length_filter_le _ _) (by simp)
  have precLt : ∀ j i,Prec ops j i → j < i := by
    intro j i h
    induction h with
    | edge ho he hb => exact hd.edge _ _ _ ho he hb
    | step ho he hb h ih => exact Nat.lt_trans ih (hd.edge _ _ _ ho he hb)
  have precIn : ∀ (l : Array Bool),(∀ (i : Nat) (o : Oper) (e : Edge),l.getD i false = true → ops[i]? = some o → e ∈ o.after.toList → Region.binds .any e = true → l.getD e.on false = true) →
      ∀ j i,Prec ops j i → (∀ (o : Oper) (e : Edge),ops[i]? = some o → e ∈ o.after.toList → Region.binds .any e = true → l.getD e.on false = true) → l.getD j false = true := by
    intro l hcl j i h
    induction h with
    | edge ho he hb => intro hi; exact hi _ _ ho he hb
    | step ho he hb h ih => intro hi; exact ih (fun o e h1 h2 h3 => hcl _ o e (hi _ _ ho he hb) h1 h2 h3)
  have allOf : ∀ (l : Array Bool),l.size = ops.size → Region.ready .any ops l = [] → ∀ i,i < ops.size → l.getD i false = true := by
    intro l hl hr i
    induction i using Nat.strongRecOn with
    | _ i ih =>
      intro hi;cases hli : l.getD i false with
      | true => rfl
      | false =>
        exfalso
        have hm : i ∈ Region.ready .any ops l := by
          rw [mem_ready];refine ⟨?_,ops[i],by simp,fun e he hb => ?_⟩
          · simp only [Array.getD_eq_getD_getElem?] at hli ⊢;have : i < l.size := by omega
            simp [this] at hli ⊢; exact hli
          · have hlt := hd.edge i ops[i] e (by simp) (by simpa using he) hb;exact ih e.on hlt (by omega)
        rw [hr] at hm; simp at hm
  intro fuel
  induction fuel with
  | zero =>
    intro l a W wr own hl hext hcl hlow hs hsz hdf hv1 hv2 hm
    exfalso
    have hnil : (List.range ops.size).filter (fun i => !l.getD i false) = [] := List.eq_nil_of_length_eq_zero (by omega);have := List.filter_eq_nil_iff.mp hnil s (by simp; omega);have := hlow s (by simpa using this)
    omega
  | succ fuel ih =>
    intro l a W wr own hl hext hcl hlow hs hsz hdf hv1 hv2 hm;refine ⟨fun hr => (by have := hlow s (allOf l hl hr s (by omega)); omega),?_⟩;intro i hi;rw [mem_ready] at hi;obtain ⟨hi0,o,ho,hpre⟩ := hi;have hilt : i < ops.size := (Array.getElem?_eq_some_iff.mp ho).1;have hio := List.getElem?_eq_getElem (l := is) (i := i) (by omega)
    generalize hgen : is[i] = io at hio
    have hli : l.getD i false = false := by
      simp only [Array.getD_eq_getD_getElem?] at hi0 ⊢;have hi' : i < l.size := by omega
      simp [hi'] at hi0 ⊢; exact hi0
    have hpre' : ∀ (o' : Oper) (e : Edge),ops[i]? = some o' → e ∈ o'.after.toList → Region.binds .any e = true → l.getD e.on false = true := by
      intro o' e ho' he hb;rw [ho] at ho'; cases ho';exact hpre e (by simpa using he) hb
    have his : i ≤ s := by
      rcases Nat.lt_or_ge s i with h | h
      · have := hlow s (precIn l hcl _ _ (hd.late i h (by omega)) hpre')
        omega
      · exact h
    have cmpr : ∀ j,j ≠ i → Prec ops j i ∨ Prec ops i j → (l.getD j false = true ↔ j < i) := by
      intro j hji hc;rcases hc with hc | hc
      · have h1 := precLt _ _ hc;have h2 := precIn l hcl _ _ hc hpre'
        simp [h1,h2]
      · have h1 := precLt _ _ hc
        constructor
        · intro hlj;have := precIn l hcl _ _ hc (fun o' e h1 h2 h3 => hcl j o' e hlj h1 h2 h3);rw [hli] at this; cases this
        · intro h; omega
    let val : Nat → V := fun t => @ite _ (∃ (j : Nat) (o : IOp),j < s ∧ is[j]? = some o ∧ o.dst = some t ∧ l.getD j false = true) (Classical.propDecidable _) (env1.getD t .un) (env0.getD t .un)
    have val1 : ∀ t,(∀ (j : Nat) (o : IOp),j < s → is[j]? = some o → o.dst ≠ some t) → val t = env0.getD t .un := by
      intro t ht;simp only [val];rw [if_neg];rintro ⟨j,o,hjs,hj,hdj,_⟩;exact ht j o hjs hj hdj
    have val2 : ∀ (t j : Nat) (o : IOp),j < s → is[j]? = some o → o.dst = some t → val t = if l.getD j false = true then env1.getD t .un else env0.getD t .un := by
      intro t j o hjs hj hdj;simp only [val]
      by_cases hlj : l.getD j false = true
      · rw [if_pos hlj,if_pos ⟨j,o,hjs,hj,hdj,hlj⟩]
      · rw [if_neg hlj,if_neg];rintro ⟨j',o',hjs',hj',hdj',hlj'⟩;have := hd.dst _ _ _ _ _ (by omega) (by omega) hj hj' hdj hdj';subst this;exact hlj hlj'
    let ES := (List.range env0.length).map val
    have hlenn : env1.length = env0.length := by have := lenE s (Nat.le_refl _); rwa [t3] at this
    have valout : ∀ t,env0.length ≤ t → val t = .un := by
      intro t ht;simp only [val]
      split
      · simp [List.getD,List.getElem?_eq_none (show env1.length ≤ t by omega)]
      · simp [List.getD,List.getElem?_eq_none ht]
    have ESget : ∀ t,ES.getD t .un = val t := by
      intro t
      by_cases ht : t < env0.length
      · simp [ES,List.getD,ht]
      · rw [valout t (by omega)]
        simp [ES,List.getD,ht]
    have ESvr : ∀ t,VR wr W own (ES.getD t .un) (a.tmps.getD t undef) := by
      intro t;rw [ESget]
      by_cases ht : ∃ (j : Nat) (o : IOp),j < s ∧ is[j]? = some o ∧ o.dst = some t
      · obtain ⟨j,o,hjs,hj,hdj⟩ := ht;rw [val2 t j o hjs hj hdj]; exact hv2 t j o hjs hj hdj
      · have hno : ∀ (j : Nat) (o : IOp),j < s → is[j]? = some o → o.dst ≠ some t := fun j o hjs hj hdj => ht ⟨j,o,hjs,hj,hdj⟩
        rw [val1 t hno]; exact hv1 t hno
    have hagree : Agree (E i) ES io.tm := by
      intro t ht;rw [ESget]
      by_cases htw : ∃ (j : Nat) (o : IOp),j < s ∧ is[j]? = some o ∧ o.dst = some t
      · obtain ⟨j,o',hjs,hj,hdj⟩ := htw;rw [val2 t j o' hjs hj hdj,envAt2 t j o' hjs hj hdj i his]
        by_cases hji : j = i
        · subst hji; simp [hli]
        · have := cmpr j hji (hd.nam i j t io o' his (by omega) (Ne.symm hji) hio hj hdj ht)
          by_cases hji' : j < i
          · rw [if_pos hji',if_pos (this.mpr hji')]
          · rw [if_neg hji',if_neg (fun h => hji' (this.mp h))]
      · have hno : ∀ (j : Nat) (o : IOp),j < s → is[j]? = some o → o.dst ≠ some t := fun j o hjs hj hdj => htw ⟨j,o,hjs,hj,hdj⟩
        rw [val1 t hno,envAt t hno i his]
    have hchk := c2 i o io (by simpa using ho) hio;have hsim : Sim wr W own H0 ES a.tmps := ⟨hs,ESvr,by simpa [ES] using hsz⟩;unfold wpOp;rw [ho]
    by_cases hisq : i = s
    · subst hisq;rw [hio] at hos; cases hos;rw [t3] at hagree;obtain ⟨e2,he2⟩ := exOpX_congr hpx hagree;refine exOpX_sim hF hP hchk hsim he2 (fun hp => by cases hp) (fun pv' hp W' wr' own' val x1 x2 x3 => ?_);cases hp;refine hQ a W' wr' own' val (hext.trans x1) ⟨x2.st,fun t => ?_,by rw [clr_len]; exact hsz⟩ hdf x3;rw [clr_getD]
      split
      · exact .un _
      · rename_i ht
        have hno : ∀ (j : Nat) (o : IOp),j < i → is[j]? = some o → o.dst ≠ some t := fun j o hjs hj hdj => ht (List.mem_filterMap.mpr ⟨o,List.mem_of_getElem? hj,hdj⟩)
        exact (hv1 t hno).mono (x1.grow hs) x1.owns
    have hi' : i < s := by omega
    have hqi := hd.quiet i io hi' hio;have t5i := t5 i _ (qget i io hi' hio);rw [heap i (by omega),heap (i + 1) (by omega)] at t5i;obtain ⟨v,e1,e2,e3⟩ := exOp_congr t5i hagree (fun _ => rfl);rw [if_pos (by exact hqi)] at e3;refine exOp_sim hF (i := { io with lo := false }) (by exact hchk) hsim e3 (fun a' W' wr' own' x1 x2 x3 => ?_);refine ih (l.setIfInBounds i true) a' W' wr' own' (by simpa using hl) (hext.trans x1) ?_ ?_ x2.st (by have h5 := x2.sz; have h6 : (put ES io.dst v).length = env0.length := (by cases io.dst <;> simp [put,ES]); exact Nat.le_trans (Nat.le_of_eq h6.symm) h5) (by rw [x3,hdf]) ?_ ?_ ?_
    · intro k o' e hk ho' he hb
      by_cases hki : k = i
      · subst hki; exact getD_set_true (hpre' o' e ho' he hb)
      · rw [getD_set_ne false (Ne.symm hki)] at hk;exact getD_set_true (hcl k o' e hk ho' he hb)
    · intro k hk
      by_cases hki : k = i
      · omega
      · rw [getD_set_ne false (Ne.symm hki)] at hk;exact hlow k hk
    · intro t ht;have hne : io.dst ≠ some t := ht i io hi' hio;have := x2.vals t;have e : (put ES io.dst v).getD t .un = ES.getD t .un := by
        cases hdd : io.dst with
        | none => rfl
        | some d =>
          have hdt : d ≠ t := by rintro rfl; exact hne hdd
          simp [put,List.getD,List.getElem?_set_ne hdt]
      dsimp only at this
      rw [e,ESget,val1 t ht] at this;exact this
    · intro t j o' hjs hj hdj;have := x2.vals t
      dsimp only at this e1
      by_cases hji : j = i
      · subst hji;rw [hio] at hj; cases hj;have hi' : j < l.size := by omega
        have hlj : (l.setIfInBounds j true).getD j false = true := by simp [Array.getD_eq_getD_getElem?,hi']
        rw [if_pos hlj];have q1 := envAt2 t j io hjs hio hdj (j + 1) (by omega);rw [if_pos (Nat.lt_succ_self j),e1] at q1;have q2 : (put ES io.dst v).getD t .un = (put (E j) io.dst v).getD t .un := by
          rw [hdj];simp only [put,List.getD];have l1 : ES.length = env0.length := by simp [ES]
          have l2 := lenE j (by omega)
          by_cases ht : t < env0.length
          · rw [List.getElem?_set_self (by omega),List.getElem?_set_self (by omega)]
          · rw [List.getElem?_eq_none (by simp; omega),List.getElem?_eq_none (by simp; omega)]
        rw [q2,q1] at this;exact this
      · have hdne : io.dst ≠ some t := fun h => hji (hd.dst _ _ _ _ _ (by omega) (by omega) hj hio hdj h)
        have e : (put ES io.dst v).getD t .un = ES.getD t .un := by
          cases hdd : io.dst with
          | none => rfl
          | some d =>
            have hdt : d ≠ t := by rintro rfl; exact hdne hdd
            simp [put,List.getD,List.getElem?_set_ne hdt]
        rw [e,ESget,val2 t j o' hjs hj hdj] at this;rw [getD_set_ne false (Ne.symm hji)];exact this
    · have hsub : (List.range ops.size).filter (fun k => !(l.setIfInBounds i true).getD k false) = ((List.range ops.size).filter (fun k => !l.getD k false)).filter (fun k => k != i) := by
        rw [List.filter_filter];apply List.filter_congr;intro k hk
        by_cases hki : k = i
        · subst hki;have hi' : k < l.size := by omega
          have e : (l.setIfInBounds k true).getD k false = true := by simp [Array.getD_eq_getD_getElem?,hi']
          rw [e]; simp
        · rw [getD_set_ne false (Ne.symm hki)]
          simp [hki]
      rw [hsub];have : (((List.range ops.size).filter (fun k => !l.getD k false)).filter (fun k => k != i)).length < ((List.range ops.size).filter (fun k => !l.getD k false)).length := by
        rw [List.length_filter_lt_length_iff_exists];exact ⟨i,List.mem_filter.mpr ⟨by simpa using hilt,by rw [hli]; rfl⟩,by simp⟩
      omega
end
end Go.Eng
namespace Go.Eng
open Go
set_option linter.unusedSectionVars false
set_option linter.unusedVariables false
set_option linter.unusedSimpArgs false
variable [Glob]
inductive Kn (own : Own) : V → Prop
  | un : Kn own .un
  | sk : Kn own .sk
  | bool (b) : Kn own (.bool b)
  | int (k n) : Kn own (.int k n)
  | str (s) : Kn own (.str s)
  | nilp : Kn own .nilp
  | ptr {b g off} (h : own b g ≠ none) : Kn own (.ptr b g off)
  | fp (x) : Kn own (.fp x)
  | bx {x} (h : ∀ c,c ∈ x.cells → Kn own c) : Kn own (.bx x)
  | nils : Kn own .nils
  | sl {b g off len z ag} (h : own b g ≠ none) : Kn own (.sl b g off len z ag)
  | fz (xs) : Kn own (.fz xs)
  | ag {cs} (h : ∀ c,c ∈ cs → Kn own c) : Kn own (.ag cs)
  | tup {cs} (h : ∀ c,c ∈ cs → Kn own c) : Kn own (.tup cs)
  | fn {f cs} (h : ∀ c,c ∈ cs → Kn own c) : Kn own (.fn f cs)
  | bm {f cs} (h : ∀ c,c ∈ cs → Kn own c) : Kn own (.bm f cs)
  | nilf : Kn own .nilf
  | ifc {t x} (h : Kn own x) : Kn own (.ifc t x)
  | nili : Kn own .nili
  | fl (x) : Kn own (.fl x)
  | nanw : Kn own .nanw
  | fze : Kn own .fze
  | mpn : Kn own .mpn
  | mp {b} (h : own b 0 ≠ none) : Kn own (.mp b)
theorem mem_get {α : Type} {c : α} {l : List α} (h : c ∈ l) : ∃ j : Nat,l[j]? = some c := by
  obtain ⟨i,hi,e⟩ := List.mem_iff_getElem.mp h;exact ⟨i,by rw [List.getElem?_eq_getElem hi,e]⟩
theorem VR.kn {wr : Nat → Prop} {W : World} {own : Own} {v : V} {v' : Value} (h : VR wr W own v v') : Kn own v := by
  induction h with
  | un => exact .un
  | sk => exact .sk
  | bool b => exact .bool b
  | int k n => exact .int k n
  | str s => exact .str s
  | nilp => exact .nilp
  | ptr h => exact .ptr (by rw [h]; simp)
  | fp => exact .fp _
  | bx cv hw hlt hc hv ih => exact .bx (fun c hc => by obtain ⟨j,hj⟩ := mem_get hc; exact ih j c hj)
  | nils => exact .nils
  | sl h => exact .sl (by rw [h]; simp)
  | fz => exact .fz _
  | fzn => exact .fz _
  | ag hl hv ih => exact .ag (fun c hc => by obtain ⟨j,hj⟩ := mem_get hc; exact ih j c hj)
  | tup hl hv ih => exact .tup (fun c hc => by obtain ⟨j,hj⟩ := mem_get hc; exact ih j c hj)
  | fn hl hv ih => exact .fn (fun c hc => by obtain ⟨j,hj⟩ := mem_get hc; exact ih j c hj)
  | bm hl hv ih => exact .bm (fun c hc => by obtain ⟨j,hj⟩ := mem_get hc; exact ih j c hj)
  | nilf => exact .nilf
  | ifc h ih => exact .ifc ih
  | nili => exact .nili
  | flt => exact .fl _
  | fnan => exact .fl _
  | mpn => exact .mpn
  | mp h => exact .mp (by rw [h]; simp)
  | fze => exact .fze
  | nanw => exact .nanw
theorem VR.to {wr wr2 : Nat → Prop} {W : World} {own own2 : Own} {v : V} {v' : Value} (hwr : ∀ b,wr2 b → wr b) (h : VR wr W own v v') : ∀ {k : Own},Kn k v → (∀ b g x,k b g ≠ none → own b g = some x → own2 b g = some x) → VR wr2 W own2 v v' := by
  have gr : Grow wr wr2 W W := ⟨Nat.le_refl _,fun b _ h => hwr b h,fun _ _ _ => rfl⟩
  induction h generalizing own2 with
  | un => intros; exact .un _
  | sk => intros; exact .sk
  | bool b => intros; exact .bool b
  | int k n => intros; exact .int k n
  | str s => intros; exact .str s
  | nilp => intros; exact .nilp
  | ptr h => intro k hk ho; cases hk with | ptr h' => exact .ptr (ho _ _ _ h' h)
  | fp cv hw hlt hc hv ih => intro k hk ho; exact VR.mono gr (Own.le_refl _) (.fp cv hw hlt hc hv)
  | bx cv hw hlt hc hv ih =>
    intro k hk ho;cases hk with
    | bx h' => exact .bx cv (fun h => hw (hwr _ h)) hlt hc (fun j c hj => ih j c hj (h' c (List.mem_of_getElem? hj)) ho)
  | nils => intros; exact .nils
  | sl h hl ha hN => intro k hk ho; cases hk with | sl h' => exact .sl (ho _ _ _ h' h) hl ha hN
  | fz z cv hl hw hz hc hv ih => intro k hk ho; exact VR.mono gr (Own.le_refl _) (.fz z cv hl hw hz hc hv)
  | fzn => intros; exact .fzn
  | ag hl hv ih => intro k hk ho; cases hk with | ag h' => exact .ag hl (fun j c hj => ih j c hj (h' c (List.mem_of_getElem? hj)) ho)
  | tup hl hv ih => intro k hk ho; cases hk with | tup h' => exact .tup hl (fun j c hj => ih j c hj (h' c (List.mem_of_getElem? hj)) ho)
  | fn hl hv ih => intro k hk ho; cases hk with | fn h' => exact .fn hl (fun j c hj => ih j c hj (h' c (List.mem_of_getElem? hj)) ho)
  | bm hl hv ih => intro k hk ho; cases hk with | bm h' => exact .bm hl (fun j c hj => ih j c hj (h' c (List.mem_of_getElem? hj)) ho)
  | nilf => intros; exact .nilf
  | ifc h ih => intro k hk ho; cases hk with | ifc h' => exact .ifc (ih h' ho)
  | nili => intros; exact .nili
  | flt b => intros; exact .flt b
  | fnan b h => intros; exact .fnan b h
  | mpn => intros; exact .mpn
  | mp h => intro k hk ho; cases hk with | mp h' => exact .mp (ho _ _ _ h' h)
  | fze a c => intros; exact .fze a c
  | nanw b h => intros; exact .nanw b h
noncomputable def ownN (n0 : Nat) (H : Heap) (own : Own) : Own := fun b g => open Classical in if n0 ≤ b ∧ ∃ cs,H[b]? = some (g,cs) ∧ notMap cs = true then own b g else none
theorem newR_kn {n0 : Nat} {H : Heap} {own : Own} : ∀ (n : Nat) {v : V},V.newR n0 H n v = true → Kn own v → Kn (ownN n0 H own) v
  | 0,v,h,_ => by simp [V.newR] at h
  | n + 1,v,h,hk => by
    cases hk with
    | un => exact .un
    | sk => exact .sk
    | bool b => exact .bool b
    | int k n => exact .int k n
    | str s => exact .str s
    | nilp => exact .nilp
    | ptr h' => simp [V.newR] at h
    | fp => exact .fp _
    | bx => simp [V.newR] at h
    | nils => exact .nils
    | sl h' =>
      simp only [V.newR,Bool.and_eq_true,decide_eq_true_eq] at h;obtain ⟨h1,h2⟩ := h;refine .sl ?_;unfold rdB at h2
      split at h2
      · rename_i cs hcs
        split at hcs
        · rename_i g' cs' hb
          split at hcs
          · rename_i hg
            cases hcs; subst hg;unfold ownN;rw [if_pos ⟨h1,_,hb,h2⟩]; exact h'
          · cases hcs
        · cases hcs
      · cases h2
    | fz => exact .fz _
    | ag h' => simp only [V.newR,List.all_eq_true] at h; exact .ag (fun c hc => newR_kn n (h c hc) (h' c hc))
    | tup h' => simp only [V.newR,List.all_eq_true] at h; exact .tup (fun c hc => newR_kn n (h c hc) (h' c hc))
    | fn h' => simp only [V.newR,List.all_eq_true] at h; exact .fn (fun c hc => newR_kn n (h c hc) (h' c hc))
    | bm => simp [V.newR] at h
    | nilf => exact .nilf
    | ifc h' => exact .ifc (newR_kn n (by simpa [V.newR] using h) h')
    | nili => exact .nili
    | fl => exact .fl _
    | nanw => exact .nanw
    | fze => exact .fze
    | mpn => exact .mpn
    | mp => simp [V.newR] at h
theorem ownN_some {n0 : Nat} {H : Heap} {own : Own} {b g : Nat} {x : Nat × Nat × Nat} (h : ownN n0 H own b g = some x) : n0 ≤ b ∧ (∃ cs,H[b]? = some (g,cs) ∧ notMap cs = true) ∧ own b g = some x := by
  unfold ownN at h
  split at h
  · rename_i hc; exact ⟨hc.1,hc.2,h⟩
  · cases h
theorem ownN_to {n0 : Nat} {H : Heap} {own : Own} (b g : Nat) (x : Nat × Nat × Nat) (h : ownN n0 H own b g ≠ none) (ho : own b g = some x) : ownN n0 H own b g = some x := by
  cases hx : ownN n0 H own b g with
  | none => exact absurd hx h
  | some y => rw [(ownN_some hx).2.2] at ho; cases ho; rfl
theorem VR.newN {wr : Nat → Prop} {W : World} {own : Own} {n0 : Nat} {H : Heap} {n : Nat} {v : V} {v' : Value} (hv : VR wr W own v v') (h : V.newR n0 H n v = true) : VR wr W (ownN n0 H own) v v' :=
  VR.to (fun _ h => h) hv (newR_kn n h hv.kn) ownN_to
theorem clean_rd {wr : Nat → Prop} {W : World} {own : Own} {n0 : Nat} {H : Heap} (s : Rd wr W own H) : Rd wr W (ownN n0 H own) (cleanH n0 H) := by
  refine ⟨fun b g cs h => ?_,s.wr_lt,s.glob⟩;unfold cleanH at h;simp only [List.getElem?_map,Option.map_eq_some_iff,Prod.mk.injEq] at h;obtain ⟨⟨g0,cs0⟩,hb,rfl,rfl⟩ := h
  by_cases hn : n0 ≤ b ∧ notMap cs0 = true
  · rcases s.live b g0 cs0 hb with ⟨cb,sh,N,h1,h2,ccs,ty,lo,hi,h3,h4,h5,h6⟩ | ⟨_,_,ks,vs,cb,rfl,_⟩ | h
    · refine .inl ⟨cb,sh,N,?_,by simpa using h2,ccs,ty,lo,hi,h3,h4,h5,fun j c hj => ?_⟩
      · unfold ownN; rw [if_pos ⟨hn.1,cs0,hb,hn.2⟩]; exact h1
      · simp only [List.getElem?_map,Option.map_eq_some_iff] at hj;obtain ⟨c0,hj,rfl⟩ := hj;obtain ⟨cv,k1,k2⟩ := h6 j c0 hj;refine ⟨cv,k1,?_⟩
        split
        · rename_i hc; exact k2.newN hc
        · exact .un _
    · simp [notMap] at hn
    · refine .inr (.inr fun g => ?_);cases hx : ownN n0 H own b g with
      | none => rfl
      | some y => have := (ownN_some hx).2.2; rw [h g] at this; cases this
  · refine .inr (.inr fun g => ?_);cases hx : ownN n0 H own b g with
    | none => rfl
    | some y =>
      obtain ⟨a1,⟨cs,a2,a3⟩,a4⟩ := ownN_some hx;rw [hb] at a2; cases a2;exact absurd ⟨a1,a3⟩ hn
noncomputable def ownK (H H' : Heap) (own own' : Own) : Own := fun b g => open Classical in if b < H.length ∧ ¬ Dead own b ∧ (own b g ≠ none ∨ ∃ cs,H'[b]? = some (g,cs)) then own' b g else none
theorem ownK_some {H H' : Heap} {own own' : Own} {b g : Nat} {x : Nat × Nat × Nat} (h : ownK H H' own own' b g = some x) : b < H.length ∧ ¬ Dead own b ∧ (own b g ≠ none ∨ ∃ cs,H'[b]? = some (g,cs)) ∧ own' b g = some x := by
  unfold ownK at h
  split at h
  · rename_i hc; exact ⟨hc.1,hc.2.1,hc.2.2,h⟩
  · cases h
theorem ownK_of {H H' : Heap} {own own' : Own} {b g : Nat} (h1 : b < H.length) (h2 : ¬ Dead own b) (h3 : own b g ≠ none ∨ ∃ cs,H'[b]? = some (g,cs)) : ownK H H' own own' b g = own' b g := by
  unfold ownK; rw [if_pos ⟨h1,h2,h3⟩]
def wrK (wr : Nat → Prop) (own : Own) : Nat → Prop := fun cb => wr cb ∨ Owned own cb
theorem frz_sim {wr wr' : Nat → Prop} {W W' : World} {own own' : Own} {H H' H2 : Heap} {r v : V} {val : Value} (s : St wr W own H) (e : Ext wr W own wr' W' own') (s' : St wr' W' own' H') (hv : VR wr' W' own' r val) (h : frzV H r H' = some (v,H2)) :
    ∃ wr2 own2,Ext wr W own wr2 W' own2 ∧ St wr2 W' own2 H2 ∧ VR wr2 W' own2 v val := by
  unfold frzV at h
  split at h
  case isFalse => cases h
  rename_i hc
  obtain ⟨hkept,hnew⟩ := hc;simp only [Option.map_eq_some_iff,Prod.mk.injEq] at h;obtain ⟨u,hd,rfl,rfl⟩ := h;have oK : ∀ b g x,ownK H H' own own' b g = some x → own' b g = some x := fun b g x h => (ownK_some h).2.2.2
  have wK : ∀ cb,wrK wr (ownK H H' own own') cb → wr' cb := by
    rintro cb (h | ⟨b,g,sh,N,h⟩)
    · exact e.wr_le cb h
    · exact s'.own_wr b g cb sh N (oK _ _ _ h)
  have lt_own : ∀ b g x,own b g = some x → b < H.length ∧ ¬ Dead own b := fun b g x h => ⟨(s.fut b g x h).1,fun hd => by rw [hd g] at h; cases h⟩
  have ol : own.le (ownK H H' own own') := by
    intro b g x h;obtain ⟨h1,h2⟩ := lt_own b g x h;rw [ownK_of h1 h2 (.inl (by rw [h]; simp))]; exact e.owns b g x h
  have known : ∀ {c : V} {cv cv0 : Value},VR wr W own c cv0 → VR wr' W' own' c cv → VR (wrK wr (ownK H H' own own')) W' (ownK H H' own own') c cv := by
    intro c cv cv0 h0 h1;refine VR.to wK h1 h0.kn (fun b g x hk ho => ?_);cases hx : own b g with
    | none => exact absurd hx hk
    | some y =>
      have := ol b g y hx;rw [oK _ _ _ this] at ho; cases ho; exact this
  have nomp : ∀ {wr : Nat → Prop} {W : World} {own : Own} {ks vs : List V} {cv : Value},¬ VR wr W own (.mpb ks vs) cv := by intro wr W own ks vs cv h; cases h
  have noLC : ∀ {wr : Nat → Prop} {W : World} {own : Own} {b g : Nat} {ks vs : List V},¬ LiveC wr W own b g [.mpb ks vs] := by
    rintro wr W own b g ks vs ⟨cb,sh,N,_,_,ccs,ty,lo,hi,_,_,_,h⟩;obtain ⟨cv,_,h⟩ := h 0 _ rfl;exact nomp h
  have get2 : ∀ b g cs,(H'.take H.length)[b]? = some (g,cs) → b < H.length ∧ H'[b]? = some (g,cs) := by
    intro b g cs h;rw [List.getElem?_take] at h
    split at h
    · exact ⟨by assumption,h⟩
    · cases h
  have live2 : ∀ b g cs,(H'.take H.length)[b]? = some (g,cs) → LiveC (wrK wr (ownK H H' own own')) W' (ownK H H' own own') b g cs ∨ LiveM (wrK wr (ownK H H' own own')) W' (ownK H H' own own') b g cs ∨ Dead (ownK H H' own own') b := by
    intro b g cs hb;obtain ⟨hlt,hb'⟩ := get2 b g cs hb
    by_cases hdd : Dead own b
    · refine .inr (.inr fun g => ?_);cases hx : ownK H H' own own' b g with
      | none => rfl
      | some y => exact absurd hdd (ownK_some hx).2.1
    have cur : ownK H H' own own' b g = own' b g := ownK_of hlt hdd (.inr ⟨cs,hb'⟩);rcases s'.live b g cs hb' with ⟨cb,sh,N,h1,h2,ccs,ty,lo,hi,h3,h4,h5,h6⟩ | ⟨rfl,h1,ks,vs,cb,rfl,h2,es,clock,h3,h4⟩ | h
    · refine .inl ⟨cb,sh,N,by rw [cur]; exact h1,h2,ccs,ty,lo,hi,h3,h4,h5,fun j c hj => ?_⟩;obtain ⟨cv,k1,k2⟩ := h6 j c hj;refine ⟨cv,k1,?_⟩;rcases hkept b hlt with hk | ⟨g',cs',hk,hf⟩
      · rw [hb'] at hk;rcases s.live b g cs hk.symm with ⟨_,_,_,_,_,_,_,_,_,_,_,_,q6⟩ | ⟨_,_,ks,vs,_,rfl,_⟩ | q
        · obtain ⟨cv0,_,q⟩ := q6 j c hj;exact known q k2
        · cases j with
          | zero => simp at hj; subst hj; exact absurd k2 nomp
          | succ j => simp at hj
        · exact absurd q hdd
      · rw [hb'] at hk; cases hk;have := VR.of_free deepN (List.all_eq_true.mp hf c (List.mem_of_getElem? hj)) k2;exact VR.mono ⟨Nat.le_refl _,fun b _ h => wK b h,fun _ _ _ => rfl⟩ (fun b g x h => by simp [own0] at h) this
    · rcases hkept b hlt with hk | ⟨g',cs',hk,hf⟩
      · rw [hb'] at hk;rcases s.live b 1 _ hk.symm with q | ⟨_,q1,ks0,vs0,cb0,q2,q3,es0,clock0,q4,q5⟩ | q
        · exact absurd q noLC
        · simp only [List.cons.injEq,V.mpb.injEq,and_true] at q2;obtain ⟨rfl,rfl⟩ := q2;refine .inr (.inl ⟨rfl,by rw [cur]; exact h1,ks,vs,cb,rfl,?_,es,clock,h3,?_⟩)
          · have := ol b 0 _ q3;rw [this,← oK _ _ _ this,h2]
          · refine ⟨h4.len,h4.vlen,fun j k e hk he => ?_,fun j v e hk he => ?_⟩
            · have hj0 : j < es0.toList.length := by rw [q5.len]; exact (List.getElem?_eq_some_iff.mp hk).1
              exact known (q5.key j k _ hk (List.getElem?_eq_getElem hj0)) (h4.key j k e hk he)
            · have hj0 : j < es0.toList.length := by rw [q5.len,← q5.vlen]; exact (List.getElem?_eq_some_iff.mp hk).1
              exact known (q5.val j v _ hk (List.getElem?_eq_getElem hj0)) (h4.val j v e hk he)
        · exact absurd q hdd
      · rw [hb'] at hk; cases hk; simp [V.free,deepN] at hf
    · refine .inr (.inr fun g => ?_);cases hx : ownK H H' own own' b g with
      | none => rfl
      | some y => have := oK _ _ _ hx; rw [h g] at this; cases this
  have lm : ∀ b cs,(H'.take H.length)[b]? = some (1,cs) → LiveM (wrK wr (ownK H H' own own')) W' (ownK H H' own own') b 1 cs → LiveM wr' W' own' b 1 cs := by
    intro b cs hb hl;obtain ⟨hlt,hb'⟩ := get2 b 1 cs hb;obtain ⟨_,h1,ks,vs,cb,rfl,h2,_⟩ := hl;rcases s'.live b 1 _ hb' with q | q | q
    · exact absurd q noLC
    · exact q
    · have := oK _ _ _ h2; rw [q 0] at this; cases this
  refine ⟨wrK wr (ownK H H' own own'),ownK H H' own own',⟨ol,e.size,fun b hb h => e.wrs b hb (wK b h),fun b h => .inl h,e.same,fun b g cb sh N h => e.newb b g cb sh N (oK _ _ _ h),e.io⟩,
    ⟨⟨live2,fun cb h => s'.wr_lt cb (wK cb h),s'.glob.mono ⟨Nat.le_refl _,fun b _ h => wK b h,fun _ _ _ => rfl⟩⟩,?_,?_,?_,?_⟩,?_⟩
  · intro b b' g g' cs cs' cb sh N sh' N' h1 h2 h3 h4;exact s'.inj b b' g g' cs cs' cb sh N sh' N' (get2 _ _ _ h1).2 (get2 _ _ _ h2).2 (oK _ _ _ h3) (oK _ _ _ h4)
  · intro b b' cs cs' cb h1 h2 h3 h4 h5 h6;exact s'.injm b b' cs cs' cb (get2 _ _ _ h1).2 (get2 _ _ _ h2).2 (lm _ _ h1 h3) (lm _ _ h2 h4) (oK _ _ _ h5) (oK _ _ _ h6)
  · intro b g x h;obtain ⟨h1,h2,h3,h4⟩ := ownK_some h;obtain ⟨q1,q2⟩ := s'.fut b g x h4;refine ⟨by simp; omega,fun g' cs hb => q2 g' cs (get2 _ _ _ hb).2⟩
  · intro b g cb sh N h; exact .inr ⟨b,g,sh,N,h⟩
  · have := deep_sound (clean_rd s'.toRd) (wr2 := wrK wr (ownK H H' own own')) (fun b g cb sh N ho hw => ?_) (.inr wK) deepN hd (hv.newN hnew)
    · exact VR.mono ⟨Nat.le_refl _,fun _ _ h => h,fun _ _ _ => rfl⟩ (fun b g x h => by simp [own0] at h) this
    · obtain ⟨a1,⟨cs,a2,a3⟩,a4⟩ := ownN_some ho;have old : ¬ wr cb := by
        intro hw;rcases e.newb b g cb sh N a4 with ⟨g',sh',N',q⟩ | q
        · have := (s.fut _ _ _ q).1; omega
        · have := s.wr_lt cb hw; omega
      rcases hw with hw | ⟨b0,g0,sh0,N0,q⟩
      · exact old hw
      · obtain ⟨q1,q2,q3,q4⟩ := ownK_some q;rcases q3 with q3 | ⟨cs0,q3⟩
        · cases hx : own b0 g0 with
          | none => exact q3 hx
          | some y =>
            have := e.owns _ _ _ hx;rw [q4] at this; cases this;exact old (s.own_wr _ _ _ _ _ hx)
        · have := s'.inj b0 b g0 g cs0 cs cb sh0 N0 sh N q3 a2 q4 a4
          omega
end Go.Eng
