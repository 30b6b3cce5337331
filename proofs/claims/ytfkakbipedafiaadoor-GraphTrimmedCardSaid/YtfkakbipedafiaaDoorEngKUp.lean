/- Functions of this seat, run on unknown values by the rules of the small machine (no condition beyond those stated). -/
import Derived.Test.YtfkakbipedafiaaDoorEngMpUp
namespace Go.Eng
open Go
set_option linter.unusedSectionVars false
set_option linter.unusedVariables false
set_option linter.unusedSimpArgs false
variable [Glob]
section
variable {wr : Nat → Prop} {W : World} {own : Own} {P : Program}
theorem evw_sim {F : FT} (hF : FSim P F) {o : Oper} {k : Kind} (hk : chkK P o.op k = true) (hq : k.quiet = false) {H H' : Heap} (s : St wr W own H) {env : List V} {a : Act}
    (hv : ∀ t,VR wr W own (env.getD t .un) (a.tmps.getD t undef)) {v : V} (h : evw F env H k = some (v,H')) {K : Act → World → Prop} {Q : Exit → Act → World → Prop}
    (hK : ∀ v' W' wr' own',Ext wr W own wr' W' own' → St wr' W' own' H' → VR wr' W' own' v v' → K (a.put o.dst v') W') : o.wp P a W K Q := by
  obtain ⟨dst,op,ty,pos,after,guard⟩ := o
  dsimp only at hk
  unfold chkK at hk
  split at hk <;> (try (simp only [Kind.quiet,Bool.true_eq_false] at hq; done)) <;> (try simp only [Bool.and_eq_true,beq_iff_eq,decide_eq_true_eq] at hk)
  case h_9 =>
    obtain ⟨⟨h1,h2⟩,h3⟩ := hk;simp only [evw,Option.map_eq_some_iff] at h;obtain ⟨H2,hst,he⟩ := h;cases he;obtain ⟨W',r1,wr',own',r2,r3⟩ := st_run h3 s (opd_sim s.glob hv h1) (opd_sim s.glob hv h2) hst;unfold Oper.wp;simp only [execOp,Sem.run_bind,r1,Result.andThen_ok,Sem.run_pure,Oper.upon_skip];exact hK _ W' wr' own' r2 r3 .sk
  case h_14 t0 x x' fr =>
    cases fr with
    | true => simp [Kind.quiet] at hq
    | false =>
      simp only [evw] at h
      split at h
      · rename_i hb
        cases h;obtain ⟨r1,wr',own',r2,r3,r4⟩ := box_run (P := P) (t := t0) s (opd_sim s.glob hv hk) hb;unfold Oper.wp;rw [show (execOp a.eval ⟨dst,.box t0 x,ty,pos,after,guard⟩) = (do pure (Next.value (← Instr.box t0 (a.eval x)))) from rfl,run_v r1,Oper.upon_value];exact hK _ _ wr' own' r2 r3 r4
      · cases h
  case h_16 t0 zc =>
    simp only [evw,Option.some.injEq,Prod.mk.injEq] at h;obtain ⟨rfl,rfl⟩ := h;obtain ⟨v',W',r1,wr',own',r2,r3,r4⟩ := alloc_run hk s;unfold Oper.wp;rw [show (execOp a.eval ⟨dst,.alloc t0,ty,pos,after,guard⟩) = (do pure (Next.value (← Instr.alloc t0 true (.tuple #[])))) from rfl,run_v r1,Oper.upon_value];exact hK _ _ wr' own' r2 r3 r4
  case h_18 t0 n parts z ag n' zero ps fr =>
    cases fr with
    | true => simp [Kind.quiet] at hq
    | false =>
      obtain ⟨⟨⟨⟨rfl,h1⟩,h2⟩,h3⟩,h4⟩ := hk;obtain ⟨v',W',r1,_,r2⟩ := bsl_run (P := P) h1 h2 h3 h4 hv s.toRd (fun _ => s) h;obtain ⟨wr',own',r3,r4,r5⟩ := r2 rfl;unfold Oper.wp;rw [show (execOp a.eval ⟨dst,.buildSlice t0 n parts,ty,pos,after,guard⟩) = (do pure (Next.value (← Instr.buildSlice t0 n (parts.map fun (i,x) => (i,a.eval x))))) from rfl,run_v r1,Oper.upon_value];exact hK _ _ wr' own' r3 r4 r5
  case h_19 t0 l c z ag zc by_ l' c' =>
    obtain ⟨⟨⟨h1,h2⟩,h3⟩,h4⟩ := hk;obtain ⟨v',W',r1,wr',own',r2,r3,r4⟩ := mks_run h3 h4 s (opd_sim s.glob hv h1) (opd_sim s.glob hv h2) h;unfold Oper.wp;rw [show (execOp a.eval ⟨dst,.makeSlice t0 l c,ty,pos,after,guard⟩) = (do pure (Next.value (← Instr.makeSlice t0 (a.eval l) (a.eval c)))) from rfl,run_v r1,Oper.upon_value];exact hK _ _ wr' own' r2 r3 r4
  case h_21 c sv x z ag by_ =>
    obtain ⟨h1,h2⟩ := hk
    split at h1
    · rename_i hc
      split at h2
      · rename_i s' x' st xt ha hat
        simp only [Bool.and_eq_true,Bool.not_eq_true'] at h2;obtain ⟨⟨⟨⟨⟨q1,q2⟩,q3⟩,q4⟩,q5⟩,q6⟩ := h2;have e1 : c.args = #[s',x'] := by rw [← Array.toList_inj,ha]
        have e2 : c.argTypes = #[st,xt] := by rw [← Array.toList_inj,hat]
        obtain ⟨v',W',r1,wr',own',r2,r3,r4⟩ := app_run (ty := ty) q3 q4 q5 q6 s (opd_sim s.glob hv q1) (opd_sim s.glob hv q2) h;have e : (execOp a.eval ⟨dst,.call c,ty,pos,after,guard⟩) = (do pure (Next.value (← Builtin.append_ #[st,xt] ty #[a.eval s',a.eval x']))) := by
          simp only [execOp,resolve,hc,e1,e2,pure_bind,invoke,builtin,List.map_toArray,List.map_cons,List.map_nil]
        unfold Oper.wp;rw [e,run_v r1,Oper.upon_value];exact hK _ _ wr' own' r2 r3 r4
      · cases h2
    · cases h1
  case h_40 t0 r0 =>
    simp only [evw,Option.some.injEq,Prod.mk.injEq] at h;obtain ⟨rfl,rfl⟩ := h;have hr : r0 = none := by simpa using hk
    subst hr;obtain ⟨v',W',r1,wr',own',r2,r3,r4⟩ := mkmp_run (P := P) s (t := t0);unfold Oper.wp;rw [show (execOp a.eval ⟨dst,.makeMap t0 none,ty,pos,after,guard⟩) = (do pure (Next.value (← Instr.makeMap t0 none))) from rfl,run_v r1,Oper.upon_value];exact hK _ _ wr' own' r2 r3 r4
  case h_42 t0 m0 k0 x0 m1 k1 x1 =>
    obtain ⟨⟨⟨h1,h2⟩,h3⟩,h4⟩ := hk;simp only [evw,Option.map_eq_some_iff] at h;obtain ⟨H2,hst,he⟩ := h;cases he;obtain ⟨W',r1,wr',own',r2,r3⟩ := mset_run s h4 (opd_sim s.glob hv h1) (opd_sim s.glob hv h2) (opd_sim s.glob hv h3) hst;unfold Oper.wp;simp only [execOp,Sem.run_bind,r1,Result.andThen_ok,Sem.run_pure,Oper.upon_skip];exact hK _ W' wr' own' r2 r3 .sk
  case h_43 t0 m0 k0 x0 m1 k1 x1 =>
    obtain ⟨⟨⟨h1,h2⟩,h3⟩,h4⟩ := hk;simp only [evw,Option.map_eq_some_iff] at h;obtain ⟨H2,hst,he⟩ := h;cases he;obtain ⟨W',r1,wr',own',r2,r3⟩ := mset_run s h4 (opd_sim s.glob hv h1) (opd_sim s.glob hv h2) (opd_sim s.glob hv h3) hst;unfold Oper.wp;simp only [execOp,Sem.run_bind,r1,Result.andThen_ok,Sem.run_pure,Oper.upon_skip];exact hK _ W' wr' own' r2 r3 .sk
  case h_44 c m0 k0 =>
    obtain ⟨h1,h2⟩ := hk
    split at h1
    · rename_i hc
      split at h2
      · rename_i m1 k1 t' _ ha hat
        simp only [Bool.and_eq_true] at h2;obtain ⟨⟨q1,q2⟩,q3⟩ := h2;have e1 : c.args = #[m1,k1] := by rw [← Array.toList_inj,ha]
        have e2 : c.argTypes[0]? = some t' := by rw [← Array.getElem?_toList,hat]; rfl
        simp only [evw,Option.map_eq_some_iff] at h;obtain ⟨H2,hst,he⟩ := h;cases he;obtain ⟨W',r1,wr',own',r2,r3⟩ := mdel_run (P := P) (ty := ty) s e2 q3 (opd_sim s.glob hv q1) (opd_sim s.glob hv q2) hst;have e : (execOp a.eval ⟨dst,.call c,ty,pos,after,guard⟩) = (do pure (Next.value (← Builtin.delete_ c.argTypes ty #[a.eval m1,a.eval k1]))) := by
          simp only [execOp,resolve,hc,e1,pure_bind,invoke,builtin,List.map_toArray,List.map_cons,List.map_nil]
        unfold Oper.wp;rw [e,run_v r1,Oper.upon_value];exact hK _ _ wr' own' r2 r3 (.tup rfl (fun j c hj => by simp at hj))
      · cases h2
    · cases h1
  case h_48 c x z zc =>
    obtain ⟨h1,h2⟩ := hk
    split at h1
    · rename_i hc
      split at h2
      · rename_i x' t' ha hat
        simp only [Bool.and_eq_true] at h2;obtain ⟨q1,q2⟩ := h2
        split at q2
        · rename_i e he
          simp only [Bool.and_eq_true,beq_iff_eq,decide_eq_true_eq] at q2;obtain ⟨⟨⟨w1,w2⟩,w3⟩,w4⟩ := q2;have e1 : c.args = #[x'] := by rw [← Array.toList_inj,ha]
          have e2 : c.argTypes = #[t'] := by rw [← Array.toList_inj,hat]
          obtain ⟨v',W',r1,wr',own',r2,r3,r4⟩ := clr_run (ty := ty) (sliceOf_eq he) w1 w2 w3 w4 s (opd_sim s.glob hv q1) h;have e : (execOp a.eval ⟨dst,.call c,ty,pos,after,guard⟩) = (do pure (Next.value (← Builtin.clear_ #[t'] ty #[a.eval x']))) := by
            simp only [execOp,resolve,hc,e1,e2,pure_bind,invoke,builtin,List.map_toArray,List.map_cons,List.map_nil]
          unfold Oper.wp;rw [e,run_v r1,Oper.upon_value];exact hK _ _ wr' own' r2 r3 r4
        · cases q2
      · cases h2
    · cases h1
  case h_23 c hp f args =>
    cases hp with
    | false => simp [Kind.quiet] at hq
    | true =>
      obtain ⟨h1,h2⟩ := hk
      split at h1
      · rename_i f' hc
        have hf := opd_sim s.glob hv h1;simp only [evw] at h;unfold hcall at h
        split at h
        · rename_i g caps hgf
          rw [hgf] at hf;obtain ⟨a1,a2⟩ := args_sim s.glob hv h2
          generalize hfe : a.eval f' = w at hf
          cases hf with
          | fn hl hcv =>
            rename_i arr
            obtain ⟨hok,hsim⟩ := hF g _ H v H' h;have hcl := hsim wr W own (c.args.map a.eval ++ arr) s (by rw [List.length_append,a1,hl,Array.size_append]) (fun j d hj => by
              rcases Nat.lt_or_ge j (args.map (·.ev env)).length with hlt | hge
              · rw [List.getElem?_append_left hlt] at hj;have := a2 j d hj;have hlt' : j < (c.args.map a.eval).size := by rw [← a1]; exact hlt
                rw [getD_of_some (Array.getElem?_eq_getElem hlt')] at this;rw [getD_of_some (x := (c.args.map a.eval)[j]) (by rw [Array.getElem?_append_left hlt']; exact Array.getElem?_eq_getElem hlt')]; exact this
              · rw [List.getElem?_append_right hge] at hj;have := hcv _ d hj;have hlt' : j - (args.map (·.ev env)).length < arr.size := by rw [← hl]; exact (List.getElem?_eq_some_iff.mp hj).1
                rw [getD_of_some (Array.getElem?_eq_getElem hlt')] at this;rw [getD_of_some (x := arr[j - (args.map (·.ev env)).length]) (by
                  rw [Array.getElem?_append_right (by rw [← a1]; exact hge)];rw [← a1]; exact Array.getElem?_eq_getElem hlt')]; exact this)
            unfold Oper.wp;have hr := call_run (P := P) (c := c) (ty := ty) (W := W) hc hfe hok;rw [show (execOp a.eval ⟨dst,.call c,ty,pos,after,guard⟩) = (do let d ← resolve a.eval c ty; invoke d.target d.args) from rfl,hr,Oper.upon_enter];refine hcl.mono ?_;rintro e w' ⟨v',wr',own',rfl,g1,g2,g3⟩;exact hK v' w' wr' own' g1 g2 g3
        · rename_i g first hgf
          rw [hgf] at hf;obtain ⟨a1,a2⟩ := args_sim s.glob hv h2
          generalize hfe : a.eval f' = w at hf
          cases hf with
          | bm hl hcv =>
            rename_i arr
            obtain ⟨hok,hsim⟩ := hF g _ H v H' h;have hcl := hsim wr W own (arr ++ c.args.map a.eval) s (by rw [List.length_append,a1,hl,Array.size_append]) (fun j d hj => by
              rcases Nat.lt_or_ge j first.length with hlt | hge
              · rw [List.getElem?_append_left hlt] at hj;have := hcv j d hj;have hlt' : j < arr.size := by rw [← hl]; exact hlt
                rw [getD_of_some (Array.getElem?_eq_getElem hlt')] at this;rw [getD_of_some (x := arr[j]) (by rw [Array.getElem?_append_left hlt']; exact Array.getElem?_eq_getElem hlt')]; exact this
              · rw [List.getElem?_append_right hge] at hj;have := a2 _ d hj;have hlt' : j - first.length < (c.args.map a.eval).size := by rw [← a1]; exact (List.getElem?_eq_some_iff.mp hj).1
                rw [getD_of_some (Array.getElem?_eq_getElem hlt')] at this;rw [getD_of_some (x := (c.args.map a.eval)[j - first.length]) (by
                  rw [Array.getElem?_append_right (by rw [← hl]; exact hge)];rw [← hl]; exact Array.getElem?_eq_getElem hlt')]; exact this)
            unfold Oper.wp;have hr := call_run_m (P := P) (c := c) (ty := ty) (W := W) hc hfe hok;rw [show (execOp a.eval ⟨dst,.call c,ty,pos,after,guard⟩) = (do let d ← resolve a.eval c ty; invoke d.target d.args) from rfl,hr,Oper.upon_enter];refine hcl.mono ?_;rintro e w' ⟨v',wr',own',rfl,g1,g2,g3⟩;exact hK v' w' wr' own' g1 g2 g3
        · cases h
      · cases h1
  case h_39 c hp f x =>
    cases hp with
    | false => simp [Kind.quiet] at hq
    | true =>
      obtain ⟨h1,h2⟩ := hk
      split at h1
      · rename_i f' hc
        have hf := opd_sim s.glob hv h1;obtain ⟨a1,a2⟩ := args_sim s.glob hv h2;simp only [evw] at h
        split at h
        · rename_i hE
          simp only [Option.map_eq_some_iff,Prod.mk.injEq] at h;obtain ⟨w,h,rfl,rfl⟩ := h;have hgf : ∃ g,f.ev env = .fn g [] := by
            unfold clnV at h; split at h
            · rename_i g _; exact ⟨g,by assumption⟩
            · cases h
          obtain ⟨g,hgf⟩ := hgf;rw [hgf] at h hf;obtain ⟨hok,hcl⟩ := cln_sim hF s.toRd h (vals := c.args.map a.eval) (by simp at a1; simp [← a1]) (a2 0 _ rfl) hE;have hfe := hf.fn_nil;unfold Oper.wp;have hr := call_run (P := P) (c := c) (ty := ty) (W := W) hc hfe hok;rw [show (execOp a.eval ⟨dst,.call c,ty,pos,after,guard⟩) = (do let d ← resolve a.eval c ty; invoke d.target d.args) from rfl,hr,Oper.upon_enter];simp only [Array.append_empty];refine hcl.mono ?_;rintro e w' ⟨v',rfl,g1,g2⟩;exact hK v' w' wr own (Ext.of_gl g1) (s.gl g1) g2
        · unfold cln1 at h
          split at h
          · rename_i g hgf
            rw [hgf] at hf
            split at h
            case isFalse => cases h
            rename_i hfree
            simp only [Option.bind_eq_some_iff] at h;obtain ⟨⟨r,Hc⟩,hr,h⟩ := h
            split at h
            case h_2 => cases h
            rename_i b gn off len z ag hre
            simp only at hre;subst hre;simp only [Option.bind_eq_some_iff] at h;obtain ⟨cs,hcs,h⟩ := h
            split at h
            case isFalse => cases h
            rename_i hcf
            cases h;obtain ⟨hok,hsim⟩ := hF g _ [] _ Hc hr;have hcl := hsim wr W own0 (c.args.map a.eval) (St.nil s.wr_lt s.glob) a1 (fun j d hj => by
              have hd : d = x.ev env := by
                cases j with
                | zero => simpa using hj.symm
                | succ j => simp at hj
              exact VR.of_free deepN (by rw [hd]; exact hfree) (a2 j d hj))
            have hfe := hf.fn_nil;unfold Oper.wp;have hrr := call_run (P := P) (c := c) (ty := ty) (W := W) hc hfe hok;rw [show (execOp a.eval ⟨dst,.call c,ty,pos,after,guard⟩) = (do let d ← resolve a.eval c ty; invoke d.target d.args) from rfl,hrr,Oper.upon_enter];simp only [Array.append_empty];refine hcl.mono ?_;rintro e w' ⟨v',wr1,own1,rfl,g1,g2,g3⟩;have hgl : Gl W w' := ⟨g1.size,fun b hb => g1.same b hb (by rintro ⟨x,y,sh,N,ho⟩; simp [own0] at ho),g1.io⟩;cases g3 with
            | sl ho hl ha hN =>
              rename_i cb sh N a0 cap
              obtain ⟨cb2,sh2,N2,ho2,hN2,ccs,tyc,lo,hi,hheap,hsz,hfr,hc2⟩ := (g2.live b gn cs (rdB_some hcs)).resolve_right (by rintro ⟨rfl,h,_⟩; rw [h] at ho; cases ho);rw [ho] at ho2; cases ho2;have hcbn : W.heap.size ≤ cb := by
                rcases g1.news cb ⟨_,_,_,_,ho⟩ with ⟨p,q,s1,s2,h⟩ | h
                · simp [own0] at h
                · exact h
              obtain ⟨wr',own',x1,x2,x3⟩ := s.change0 (b := H.length) (g' := 0) (cs' := cs) (cb' := cb) (sh' := sh) (N' := ccs.size) (H' := H ++ [(0,cs)]) (W' := w') (ccs := ccs) (ty := tyc) (lo := lo) (hi := hi)
                (fun x hx => by
                  rcases Nat.lt_or_ge x H.length with h | h
                  · rw [List.getElem?_append_left h]
                  · rw [List.getElem?_eq_none h,List.getElem?_eq_none (by simp; omega)]) (by simp) (by simp) hgl.io hgl.size (fun x hx _ => hgl.same x hx) (.inl hcbn) (fun g x h => by have := (s.fut _ _ _ h).1; omega)
                hheap rfl (fun i hi' => hfr i (by omega)) (by omega) (fun j d hj => by
                  obtain ⟨cv,q1,q2⟩ := hc2 j d hj;refine ⟨cv,q1,VR.mono ⟨Nat.le_refl _,fun b hb hw => ?_,fun _ _ _ => rfl⟩ (fun b g x h => by simp [own0] at h) (VR.of_free deepN (List.all_eq_true.mp hcf d (List.mem_of_getElem? hj)) q2)⟩;rcases hw with hw | rfl
                  · exact g1.wr_le b hw
                  · exact g2.own_wr _ _ _ _ _ ho)
              refine hK _ w' wr' own' x1 x2 (.sl x3 hl ha ?_);rw [hsz]; exact hN
          · cases h
      · cases h1
  case h_49 => cases hk
  all_goals (first | (simp [Kind.quiet] at hq; done) | (simp only [evw] at h; cases h; done))
theorem put_sim {env : List V} {a : Act} (hv : ∀ t,VR wr W own (env.getD t .un) (a.tmps.getD t undef)) (hsz : env.length ≤ a.tmps.size) {v : V} {v' : Value} (h : VR wr W own v v') (d : Option Nat) :
    (∀ t,VR wr W own ((put env d v).getD t .un) ((a.put d v').tmps.getD t undef)) ∧ (put env d v).length ≤ (a.put d v').tmps.size ∧ (a.put d v').defers = a.defers := by
  cases d with
  | none => exact ⟨hv,hsz,rfl⟩
  | some d =>
    refine ⟨fun t => ?_,by simp [put,Act.put,hsz],rfl⟩;simp only [put,Act.put]
    by_cases htd : t = d
    · subst htd
      by_cases hlt : t < env.length
      · have h1 : (env.set t v).getD t .un = v := by simp [List.getD,hlt]
        have h2 : (a.tmps.setIfInBounds t v').getD t undef = v' := by
          apply getD_of_some; rw [Array.getElem?_setIfInBounds_self_of_lt (by omega)]
        rw [h1,h2]; exact h
      · have h1 : (env.set t v).getD t .un = .un := by simp [List.getD,hlt]
        rw [h1]; exact .un _
    · have h1 : (env.set d v).getD t .un = env.getD t .un := by simp [List.getD,List.getElem?_set_ne (Ne.symm htd)]
      have h2 : (a.tmps.setIfInBounds d v').getD t undef = a.tmps.getD t undef := by
        simp [Array.getD_eq_getD_getElem?,Array.getElem?_setIfInBounds_ne (Ne.symm htd)]
      rw [h1,h2]; exact hv t
theorem Sim.mono {wr' : Nat → Prop} {W' : World} {own' : Own} {env : List V} {a : Act} {H : Heap} (s : St wr W own H) (e : Ext wr W own wr' W' own') (hv : ∀ t,VR wr W own (env.getD t .un) (a.tmps.getD t undef)) :
    ∀ t,VR wr' W' own' (env.getD t .un) (a.tmps.getD t undef) := fun t => (hv t).mono (e.grow s) e.owns
theorem exK_sim {F : FT} (hF : FSim P F) {o : Oper} {i : IOp} (hd : o.dst = i.dst) (hk : chkK P o.op i.k = true) {H H' : Heap} {env env' : List V} {a : Act} (s : Sim wr W own H env a.tmps)
    (h : exK F i env H = some (env',H')) {K : Act → World → Prop} {Q : Exit → Act → World → Prop}
    (hK : ∀ a' W' wr' own',Ext wr W own wr' W' own' → Sim wr' W' own' H' env' a'.tmps → a'.defers = a.defers → K a' W') : o.wp P a W K Q := by
  unfold exK at h
  split at h
  · rename_i hq
    simp only [Option.map_eq_some_iff,Prod.mk.injEq] at h;obtain ⟨v,hev,rfl,rfl⟩ := h;have hrd : Rd wr W own (if i.lo then [] else H) := by split; exact Rd.nil s.st.wr_lt s.st.glob; exact s.st.toRd
    refine evq_sim hF hk hq hrd s.vals hev (fun v' W' hg hvr => ?_);rw [hd];obtain ⟨p1,p2,p3⟩ := put_sim (wr := wr) (W := W') (own := own) (fun t => (s.vals t).gl hg) s.sz hvr i.dst;exact hK _ W' wr own (Ext.of_gl hg) ⟨s.st.gl hg,p1,p2⟩ p3
  · rename_i hq
    simp only [Option.map_eq_some_iff,Prod.mk.injEq] at h;obtain ⟨⟨v,H2⟩,hev,rfl,rfl⟩ := h;refine evw_sim hF hk (by simpa using hq) s.st s.vals hev (fun v' W' wr' own' he hst hvr => ?_);rw [hd];obtain ⟨p1,p2,p3⟩ := put_sim (Sim.mono s.st he s.vals) s.sz hvr i.dst;exact hK _ W' wr' own' he ⟨hst,p1,p2⟩ p3
theorem yielded_of {ops : Array Oper} {j t : Nat} (hj : (ops[j]?).bind (·.dst) = some t) {tmps : Array Value} :
    (∀ b,tmps.getD t undef = .bool b → yielded ops tmps j = some b) ∧ (tmps.getD t undef = undef → yielded ops tmps j = none) := by
  have h : yielded ops tmps j = match tmps[t]? with | some (.bool b) => some b | _ => none := by
    unfold yielded; rw [hj]; rfl
  rw [h];cases ht : tmps[t]? with
  | none => exact ⟨fun b hb => by simp [Array.getD_eq_getD_getElem?,ht,undef] at hb,fun _ => rfl⟩
  | some v =>
    have e : tmps.getD t undef = v := getD_of_some ht;rw [e];exact ⟨fun b hb => by rw [hb],fun hb => by rw [hb]; rfl⟩
theorem exOp_sim {F : FT} (hF : FSim P F) {ops : Array Oper} {o : Oper} {i : IOp} (hc : chkOp P ops o i = true) {H H' : Heap} {env env' : List V} {a : Act} (s : Sim wr W own H env a.tmps)
    (h : exOp F i env H = some (env',H')) {K : Act → World → Prop} {Q : Exit → Act → World → Prop}
    (hK : ∀ a' W' wr' own',Ext wr W own wr' W' own' → Sim wr' W' own' H' env' a'.tmps → a'.defers = a.defers → K a' W') :
    if Region.wanted o (yielded ops a.tmps) then o.wp P a W K Q ∨ (o.asks P a W ∧ LetsOut Q) else K (a.put o.dst undef) W := by
  simp only [chkOp,Bool.and_eq_true,beq_iff_eq] at hc;obtain ⟨⟨hd,hk⟩,hg⟩ := hc;have skip : H' = H → env' = put env i.dst .sk → K (a.put o.dst undef) W := by
    rintro rfl rfl;rw [hd];obtain ⟨p1,p2,p3⟩ := put_sim s.vals s.sz (.sk (wr := wr) (W := W) (own := own)) i.dst;exact hK _ W wr own (Ext.refl _ _ _) ⟨s.st,p1,p2⟩ p3
  unfold exOp at h;cases hog : o.guard with
  | none =>
    rw [hog] at hg;cases hig : i.guard with
    | some p => rw [hig] at hg; cases hg
    | none =>
      rw [hig] at h;rw [if_pos (by simp [Region.wanted,hog])];exact .inl (exK_sim hF hd hk s h hK)
  | some p =>
    obtain ⟨j,w⟩ := p;rw [hog] at hg;cases hig : i.guard with
    | none => rw [hig] at hg; cases hg
    | some p =>
      obtain ⟨t,w'⟩ := p;rw [hig] at hg h;simp only [Bool.and_eq_true,beq_iff_eq] at hg;obtain ⟨rfl,hj⟩ := hg;obtain ⟨y1,y2⟩ := yielded_of hj (tmps := a.tmps);have hvt := s.vals t
      dsimp only at h
      split at h
      · rename_i b hb
        rw [hb] at hvt;have hy := y1 b hvt.bool_eq
        split at h
        · rename_i hbw
          subst hbw;rw [if_pos (by simp [Region.wanted,hog,hy])];exact .inl (exK_sim hF hd hk s h hK)
        · rename_i hbw
          cases h;rw [if_neg (by simp [Region.wanted,hog,hy,hbw])];exact skip rfl rfl
      · rename_i hb
        rw [hb] at hvt;have hy := y2 (by generalize a.tmps.getD t undef = q at hvt; cases hvt; rfl);cases h;rw [if_neg (by simp [Region.wanted,hog,hy])];exact skip rfl rfl
      · cases h
theorem exOps_sim {F : FT} (hF : FSim P F) {ops : Array Oper} {Q : Exit → Act → World → Prop} : ∀ (l : List Oper) (is : List IOp),all2 (chkOp P ops) l is = true →
    ∀ {wr : Nat → Prop} {W : World} {own : Own} {H H' : Heap} {env env' : List V} {a : Act},Sim wr W own H env a.tmps → exOps F is env H = some (env',H') →
    (∀ a' W' wr' own',Ext wr W own wr' W' own' → Sim wr' W' own' H' env' a'.tmps → a'.defers = a.defers → Q .normal a' W') → wpList P ops Q l a W
  | [],[],_,wr,W,own,H,H',env,env',a,s,h,hQ => by
    simp only [exOps,Option.some.injEq,Prod.mk.injEq] at h;obtain ⟨rfl,rfl⟩ := h;exact hQ a W wr own (Ext.refl _ _ _) s rfl
  | o :: l,i :: is,hc,wr,W,own,H,H',env,env',a,s,h,hQ => by
    simp only [all2,Bool.and_eq_true] at hc;simp only [exOps] at h
    split at h
    · rename_i env1 H1 h1
      unfold wpList;refine exOp_sim hF hc.1 s h1 (fun a1 W1 wr1 own1 e1 s1 d1 => ?_);exact exOps_sim hF l is hc.2 s1 h (fun a2 W2 wr2 own2 e2 s2 d2 => hQ a2 W2 wr2 own2 (e1.trans e2) s2 (d2.trans d1))
    · cases h
  | [],_ :: _,hc,_,_,_,_,_,_,_,_,_,_,_ => by simp [all2] at hc
  | _ :: _,[],hc,_,_,_,_,_,_,_,_,_,_,_ => by simp [all2] at hc
end
end Go.Eng
namespace Go.Eng
open Go
set_option linter.unusedSectionVars false
set_option linter.unusedVariables false
set_option linter.unusedSimpArgs false
variable [Glob]
def Opd.tm : Opd → List Nat
  | .t n => [n]
  | .c _ => []
def optTm : Option Opd → List Nat
  | none => []
  | some d => d.tm
def Kind.tm : Kind → List Nat
  | .mov x => x.tm
  | .pick c a b => c.tm ++ a.tm ++ b.tm
  | .bin _ _ x y => x.tm ++ y.tm
  | .un _ x => x.tm
  | .cvt _ x => x.tm
  | .s2b x => x.tm
  | .b2s x => x.tm
  | .ld x _ => x.tm
  | .st a x _ => a.tm ++ x.tm
  | .idxa x i _ _ => x.tm ++ i.tm
  | .idxs x i => x.tm ++ i.tm
  | .idxg x i _ _ _ => x.tm ++ i.tm
  | .fld x _ _ => x.tm
  | .flda x _ _ => x.tm
  | .box x _ => x.tm
  | .boxr x => x.tm
  | .alloc _ => []
  | .bld _ ps => ps.flatMap fun p => p.2.2.tm
  | .bsl _ _ _ _ ps _ => ps.flatMap fun p => p.2.tm
  | .mks _ _ _ _ l c => l.tm ++ c.tm
  | .slc x lo hi _ => x.tm ++ optTm lo ++ optTm hi
  | .app s x _ _ _ => s.tm ++ x.tm
  | .len _ x => x.tm
  | .call _ f args => f.tm ++ args.flatMap Opd.tm
  | .ext x _ => x.tm
  | .nchk x => x.tm
  | .mkf _ caps => caps.flatMap Opd.tm
  | .mkm _ first => first.flatMap Opd.tm
  | .mki _ x => x.tm
  | .fbin _ x y => x.tm ++ y.tm
  | .fneg x => x.tm
  | .i2f x => x.tm
  | .f2i _ x => x.tm
  | .xc _ x => x.tm
  | .ixb x c => x.tm ++ c.tm
  | .eqs _ _ x y => x.tm ++ y.tm
  | .idxp x i _ _ _ => x.tm ++ i.tm
  | .mnx _ x y => x.tm ++ y.tm
  | .clr x _ _ => x.tm
  | .cpy d s _ => d.tm ++ s.tm
  | .cln _ f x => f.tm ++ x.tm
  | .stuck => []
  | .mkmp => []
  | .slca x lo hi _ _ _ => x.tm ++ optTm lo ++ optTm hi
  | .mget m k _ _ => m.tm ++ k.tm
  | .mset m k x => m.tm ++ k.tm ++ x.tm
  | .mdel m k => m.tm ++ k.tm
  | .mlen m => m.tm
def IOp.tm (o : IOp) : List Nat := o.k.tm ++ (match o.guard with | some (t,_) => [t] | none => [])
def Kind.usesH : Kind → Bool
  | .b2s _ | .ld .. | .call .. | .cln .. | .mget .. | .mlen .. | .slca .. => true
  | _ => false
def IOp.hp (o : IOp) : Bool := !o.k.quiet || (o.k.usesH && !o.lo)
def Agree (env env' : List V) (ts : List Nat) : Prop := ∀ t ∈ ts,env.getD t .un = env'.getD t .un
theorem ev_congr {env env' : List V} {d : Opd} (h : Agree env env' d.tm) : d.ev env = d.ev env' := by
  cases d with
  | t n => exact h n (by simp [Opd.tm])
  | c v => rfl
theorem Agree.sub {env env' : List V} {a b : List Nat} (h : Agree env env' a) (hs : ∀ t ∈ b,t ∈ a) : Agree env env' b := fun t ht => h t (hs t ht)
theorem map_congr_ev {env env' : List V} {l : List Opd} (h : Agree env env' (l.flatMap Opd.tm)) : l.map (·.ev env) = l.map (·.ev env') :=
  List.map_congr_left fun d hd => ev_congr (h.sub (fun t ht => List.mem_flatMap.mpr ⟨d,hd,ht⟩))
theorem opt_congr {env env' : List V} {o : Option Opd} (h : Agree env env' (optTm o)) : o.map (·.ev env) = o.map (·.ev env') := by
  cases o with
  | none => rfl
  | some d => simp only [Option.map_some]; rw [ev_congr h]
theorem evq_congr {F : FT} {env env' : List V} {H H' : Heap} {k : Kind} (h : Agree env env' k.tm) (hH : k.usesH = true → H = H') : evq F env H k = evq F env' H' k := by
  cases k <;> simp only [Kind.tm] at h <;> simp only [Kind.usesH,forall_const,reduceCtorEq,false_implies,Bool.false_eq_true] at hH <;> (try subst hH) <;> simp only [evq]
  case mov x => rw [ev_congr h]
  case pick c a b => rw [ev_congr (h.sub (b := c.tm) (by simp_all)),ev_congr (h.sub (b := a.tm) (by simp_all)),ev_congr (h.sub (b := b.tm) (by simp_all))]
  case bin cl op x y => rw [ev_congr (h.sub (b := x.tm) (by simp_all)),ev_congr (h.sub (b := y.tm) (by simp_all))]
  case un op x => rw [ev_congr h]
  case cvt k x => rw [ev_congr h]
  case b2s x => rw [ev_congr h]
  case ld x n => rw [ev_congr h]
  case idxa x i z ag => rw [ev_congr (h.sub (b := x.tm) (by simp_all)),ev_congr (h.sub (b := i.tm) (by simp_all))]
  case idxs x i => rw [ev_congr (h.sub (b := x.tm) (by simp_all)),ev_congr (h.sub (b := i.tm) (by simp_all))]
  case idxg x i len z n => rw [ev_congr (h.sub (b := x.tm) (by simp_all)),ev_congr (h.sub (b := i.tm) (by simp_all))]
  case fld x off n => rw [ev_congr h]
  case flda x off n => rw [ev_congr h]
  case box x fr => cases fr <;> simp only [evq]; rw [ev_congr h]
  case boxr x => rw [ev_congr h]
  case bld zero ps =>
    congr 1
    exact List.map_congr_left fun p hp => by rw [ev_congr (h.sub (fun t ht => List.mem_flatMap.mpr ⟨p,hp,ht⟩))]
  case bsl z ag n zero ps fr =>
    have : ps.map (fun p => (p.1,p.2.ev env)) = ps.map (fun p => (p.1,p.2.ev env')) :=
      List.map_congr_left fun p hp => by rw [ev_congr (h.sub (fun t ht => List.mem_flatMap.mpr ⟨p,hp,ht⟩))]
    cases fr <;> simp only [evq,this]
  case slc x lo hi z => rw [ev_congr (h.sub (b := x.tm) (by simp_all)),opt_congr (h.sub (b := optTm lo) (by simp_all)),opt_congr (h.sub (b := optTm hi) (by simp_all))]
  case len s x => rw [ev_congr h]
  case call hp f args =>
    cases hp <;> simp only [evq];rw [ev_congr (h.sub (b := f.tm) (by simp_all)),map_congr_ev (h.sub (b := args.flatMap Opd.tm) (by intro t ht; exact List.mem_append_right _ ht))]
  case mget m k z ok => rw [ev_congr (h.sub (b := m.tm) (by simp_all)),ev_congr (h.sub (b := k.tm) (by simp_all))]
  case mlen m => rw [ev_congr h]
  case slca x lo hi n z ag => rw [ev_congr (h.sub (b := x.tm) (by simp_all)),opt_congr (h.sub (b := optTm lo) (by simp_all)),opt_congr (h.sub (b := optTm hi) (by simp_all))]
  case cln hp f x => cases hp <;> simp only [evq]; rw [ev_congr (h.sub (b := f.tm) (by simp_all)),ev_congr (h.sub (b := x.tm) (by simp_all))]
  case ext x i => rw [ev_congr h]
  case nchk x => rw [ev_congr h]
  case mkf f caps => rw [map_congr_ev h]
  case mkm f first => rw [map_congr_ev h]
  case mki t x => rw [ev_congr h]
  case fbin op x y => rw [ev_congr (h.sub (b := x.tm) (by simp_all)),ev_congr (h.sub (b := y.tm) (by simp_all))]
  case fneg x => rw [ev_congr h]
  case i2f x => rw [ev_congr h]
  case f2i k x => rw [ev_congr h]
  case xc e x => rw [ev_congr h]
  case ixb x c => rw [ev_congr (h.sub (b := x.tm) (by simp_all)),ev_congr (h.sub (b := c.tm) (by simp_all))]
  case eqs ne sig x y => rw [ev_congr (h.sub (b := x.tm) (by simp_all)),ev_congr (h.sub (b := y.tm) (by simp_all))]
  case idxp x i len z n => rw [ev_congr (h.sub (b := x.tm) (by simp_all)),ev_congr (h.sub (b := i.tm) (by simp_all))]
  case mnx mx x y => rw [ev_congr (h.sub (b := x.tm) (by simp_all)),ev_congr (h.sub (b := y.tm) (by simp_all))]
theorem evw_congr {F : FT} {env env' : List V} {H : Heap} {k : Kind} (h : Agree env env' k.tm) : evw F env H k = evw F env' H k := by
  cases k <;> simp only [Kind.tm] at h <;> simp only [evw]
  case clr x z zc => rw [ev_congr h]
  case cpy d s z => rw [ev_congr (h.sub (b := d.tm) (by simp_all)),ev_congr (h.sub (b := s.tm) (by simp_all))]
  case st a x n => rw [ev_congr (h.sub (b := a.tm) (by simp_all)),ev_congr (h.sub (b := x.tm) (by simp_all))]
  case box x fr => cases fr <;> simp only [evw]; rw [ev_congr h]
  case bsl z ag n zero ps fr =>
    have : ps.map (fun p => (p.1,p.2.ev env)) = ps.map (fun p => (p.1,p.2.ev env')) :=
      List.map_congr_left fun p hp => by rw [ev_congr (h.sub (fun t ht => List.mem_flatMap.mpr ⟨p,hp,ht⟩))]
    cases fr <;> simp only [evw,this]
  case mks z ag zc b l c => rw [ev_congr (h.sub (b := l.tm) (by simp_all)),ev_congr (h.sub (b := c.tm) (by simp_all))]
  case app s x z ag b => rw [ev_congr (h.sub (b := s.tm) (by simp_all)),ev_congr (h.sub (b := x.tm) (by simp_all))]
  case call hp f args =>
    cases hp <;> simp only [evw];rw [ev_congr (h.sub (b := f.tm) (by simp_all)),map_congr_ev (h.sub (b := args.flatMap Opd.tm) (by intro t ht; exact List.mem_append_right _ ht))]
  case s2b x => rw [ev_congr h]
  case mset m k x => rw [ev_congr (h.sub (b := m.tm) (by simp_all)),ev_congr (h.sub (b := k.tm) (by simp_all)),ev_congr (h.sub (b := x.tm) (by simp_all))]
  case mdel m k => rw [ev_congr (h.sub (b := m.tm) (by simp_all)),ev_congr (h.sub (b := k.tm) (by simp_all))]
  case cln hp f x => cases hp <;> simp only [evw]; rw [ev_congr (h.sub (b := f.tm) (by simp_all)),ev_congr (h.sub (b := x.tm) (by simp_all))]
theorem exOp_congr {F : FT} {o : IOp} {env env' env2 : List V} {H H' H2 : Heap} (h : exOp F o env H = some (env',H')) (ha : Agree env env2 o.tm) (hH : o.hp = true → H = H2) :
    ∃ v,env' = put env o.dst v ∧ (o.k.quiet = true → H' = H) ∧ exOp F o env2 H2 = some (put env2 o.dst v,if o.k.quiet then H2 else H') := by
  have hk : Agree env env2 o.k.tm := ha.sub (fun t ht => by simp [IOp.tm,ht]);have run : exK F o env H = some (env',H') → ∃ v,env' = put env o.dst v ∧ (o.k.quiet = true → H' = H) ∧ exK F o env2 H2 = some (put env2 o.dst v,if o.k.quiet then H2 else H') := by
    intro h;unfold exK at h ⊢
    by_cases hq : o.k.quiet = true
    · rw [if_pos hq] at h ⊢;simp only [Option.map_eq_some_iff,Prod.mk.injEq] at h;obtain ⟨v,hv,rfl,rfl⟩ := h;refine ⟨v,rfl,fun _ => rfl,?_⟩;rw [← evq_congr (F := F) (H := if o.lo then [] else H) (H' := if o.lo then [] else H2) hk ?_,hv]
      · simp [hq]
      · intro hu;cases hl : o.lo with
        | true => rfl
        | false => simp only [Bool.false_eq_true,if_false]; exact hH (by simp [IOp.hp,hu,hl])
    · rw [if_neg hq] at h ⊢;simp only [Option.map_eq_some_iff,Prod.mk.injEq] at h;obtain ⟨⟨v,H3⟩,hv,rfl,rfl⟩ := h;have e : H = H2 := hH (by simp [IOp.hp,hq]);subst e;refine ⟨v,rfl,fun h => absurd h hq,?_⟩;rw [← evw_congr (F := F) hk,hv]
      simp [hq]
  have skipc : ∀ {b : Bool},b = false → (o.k.quiet = false → H = H2) := fun _ hq => hH (by simp [IOp.hp,hq])
  unfold exOp at h ⊢;cases hg : o.guard with
  | none => rw [hg] at h; exact run h
  | some p =>
    obtain ⟨t,w⟩ := p;rw [hg] at h
    dsimp only at h ⊢
    have et : env.getD t .un = env2.getD t .un := ha t (by simp [IOp.tm,hg]);rw [← et];cases hv : env.getD t .un <;> rw [hv] at h <;> dsimp only at h ⊢ <;> (try (cases h; done))
    · cases h;refine ⟨.sk,rfl,fun _ => rfl,?_⟩
      by_cases hq : o.k.quiet = true
      · simp [hq]
      · have e : H = H2 := hH (by simp [IOp.hp,hq]);subst e; simp
    · rename_i b
      by_cases hb : b = w
      · rw [if_pos hb] at h ⊢; exact run h
      · rw [if_neg hb] at h ⊢;cases h;refine ⟨.sk,rfl,fun _ => rfl,?_⟩
        by_cases hq : o.k.quiet = true
        · simp [hq]
        · have e : H = H2 := hH (by simp [IOp.hp,hq]);subst e; simp
inductive Prec (ops : Array Oper) : Nat → Nat → Prop
  | edge {i : Nat} {o : Oper} {e : Edge} (ho : ops[i]? = some o) (he : e ∈ o.after.toList) (hb : Region.binds .any e = true) : Prec ops e.on i
  | step {i j : Nat} {o : Oper} {e : Edge} (ho : ops[i]? = some o) (he : e ∈ o.after.toList) (hb : Region.binds .any e = true) (h : Prec ops j e.on) : Prec ops j i
def befOf (acc : List Nat) (o : Oper) : Nat := o.after.toList.foldl (fun s e => if Region.binds .any e then s ||| 2 ^ e.on ||| acc.getD e.on 0 else s) 0
def befs : List Oper → List Nat → List Nat
  | [],acc => acc
  | o :: r,acc => befs r (acc ++ [befOf acc o])
theorem befOf_spec {ops : Array Oper} {acc : List Nat} {o : Oper} {i : Nat} (ho : ops[i]? = some o) (hacc : ∀ m j,(acc.getD m 0).testBit j = true → Prec ops j m) :
    ∀ j,(befOf acc o).testBit j = true → Prec ops j i := by
  have key : ∀ (l : List Edge) (s : Nat),(∀ e ∈ l,e ∈ o.after.toList) → (∀ j,s.testBit j = true → Prec ops j i) →
      ∀ j,(l.foldl (fun s e => if Region.binds .any e then s ||| 2 ^ e.on ||| acc.getD e.on 0 else s) s).testBit j = true → Prec ops j i := by
    intro l
    induction l with
    | nil => intro s _ hs j hj; exact hs j hj
    | cons e l ih =>
      intro s hl hs j hj;rw [List.foldl_cons] at hj;refine ih _ (fun x hx => hl x (by simp [hx])) ?_ j hj;intro j hj
      split at hj
      · rename_i hb
        simp only [Nat.testBit_or,Bool.or_eq_true,Nat.testBit_two_pow,decide_eq_true_eq] at hj;rcases hj with (hj | hj) | hj
        · exact hs j hj
        · subst hj; exact .edge ho (hl e (by simp)) hb
        · exact .step ho (hl e (by simp)) hb (hacc _ _ hj)
      · exact hs j hj
  exact key _ 0 (fun e he => he) (fun j hj => by simp at hj)
theorem befs_spec {ops : Array Oper} : ∀ (l : List Oper) (acc : List Nat),(∀ k o,l[k]? = some o → ops[acc.length + k]? = some o) → (∀ m j,(acc.getD m 0).testBit j = true → Prec ops j m) →
    ∀ m j,((befs l acc).getD m 0).testBit j = true → Prec ops j m
  | [],acc,_,h => h
  | o :: r,acc,hl,h => by
    refine befs_spec r (acc ++ [befOf acc o]) (fun k p hk => ?_) (fun m j hj => ?_)
    · have := hl (k + 1) p (by simpa using hk)
      simpa [Nat.add_assoc,Nat.add_comm 1 k] using this
    · have ho : ops[acc.length]? = some o := by simpa using hl 0 o (by simp)
      by_cases hm : m < acc.length
      · have e : (acc ++ [befOf acc o]).getD m 0 = acc.getD m 0 := by simp only [List.getD]; rw [List.getElem?_append_left hm]
        rw [e] at hj; exact h m j hj
      · by_cases hm2 : m = acc.length
        · subst hm2;have e : (acc ++ [befOf acc o]).getD acc.length 0 = befOf acc o := by simp [List.getD]
          rw [e] at hj;exact befOf_spec ho h j hj
        · have e : (acc ++ [befOf acc o]).getD m 0 = 0 := by
            simp only [List.getD]; rw [List.getElem?_eq_none (by simp; omega)]; rfl
          rw [e] at hj; simp at hj
def allPairs (n : Nat) (f : Nat → Nat → Bool) : Bool := (List.range n).all fun i => (List.range n).all fun j => f i j
def chkDraw (ops : Array Oper) (is : List IOp) : Bool :=
  let bs := befs ops.toList []
  let pre := fun j i => (bs.getD i 0).testBit j
  (List.range ops.size).all (fun i => match ops[i]? with | some o => o.after.toList.all (fun e => !Region.binds .any e || decide (e.on < i)) | none => true) &&
  allPairs is.length (fun i j => i == j || (match is[i]?,is[j]? with
    | some a,some b => (match b.dst with | some t => a.dst != some t && (!a.tm.contains t || pre j i || pre i j) | none => true) &&
        (a.k.quiet || !b.hp || pre j i || pre i j)
    | _,_ => true))
structure DrawOk (ops : Array Oper) (is : List IOp) : Prop where
  edge : ∀ i o e,ops[i]? = some o → e ∈ o.after.toList → Region.binds .any e = true → e.on < i
  dst : ∀ (i j t : Nat) (a b : IOp),is[i]? = some a → is[j]? = some b → a.dst = some t → b.dst = some t → i = j
  nam : ∀ (i j t : Nat) (a b : IOp),i ≠ j → is[i]? = some a → is[j]? = some b → b.dst = some t → t ∈ a.tm → Prec ops j i ∨ Prec ops i j
  wrt : ∀ (i j : Nat) (a b : IOp),i ≠ j → is[i]? = some a → is[j]? = some b → a.k.quiet = false → b.hp = true → Prec ops j i ∨ Prec ops i j
theorem chkDraw_spec {ops : Array Oper} {is : List IOp} (h : chkDraw ops is = true) : DrawOk ops is := by
  simp only [chkDraw,allPairs,Bool.and_eq_true,List.all_eq_true,List.mem_range] at h;obtain ⟨h1,h2⟩ := h;have hp := befs_spec (ops := ops) ops.toList [] (fun k o hk => by simpa using hk) (fun m j hj => by simp at hj);have pair : ∀ (i j : Nat) (a b : IOp),i ≠ j → is[i]? = some a → is[j]? = some b →
      (match b.dst with | some t => a.dst ≠ some t ∧ (t ∈ a.tm → Prec ops j i ∨ Prec ops i j) | none => True) ∧ (a.k.quiet = false → b.hp = true → Prec ops j i ∨ Prec ops i j) := by
    intro i j a b hij ha hb;have := h2 i (List.getElem?_eq_some_iff.mp ha).1 j (List.getElem?_eq_some_iff.mp hb).1;rw [ha,hb] at this;simp only [Bool.or_eq_true,beq_iff_eq,hij,false_or,Bool.and_eq_true,Bool.not_eq_true'] at this;obtain ⟨t1,t2⟩ := this
    constructor
    · cases hd : b.dst with
      | none => trivial
      | some t =>
        rw [hd] at t1;simp only [Bool.and_eq_true,bne_iff_ne,ne_eq,Bool.or_eq_true,Bool.not_eq_true'] at t1;refine ⟨t1.1,fun ht => ?_⟩;rcases t1.2 with (h | h) | h
        · exfalso; simp at h; exact h ht
        · exact .inl (hp _ _ h)
        · exact .inr (hp _ _ h)
    · intro hq hb';rcases t2 with ((h | h) | h) | h
      · rw [hq] at h; cases h
      · rw [hb'] at h; cases h
      · exact .inl (hp _ _ h)
      · exact .inr (hp _ _ h)
  refine ⟨?_,?_,?_,?_⟩
  · intro i o e ho he hb;have hlt : i < ops.size := (Array.getElem?_eq_some_iff.mp ho).1;have := h1 i hlt;rw [ho] at this;simp only [List.all_eq_true,Bool.or_eq_true,Bool.not_eq_true',decide_eq_true_eq] at this;rcases this e he with h | h
    · rw [hb] at h; cases h
    · exact h
  · intro i j t a b ha hb hda hdb
    by_cases hij : i = j
    · exact hij
    · have := (pair i j a b hij ha hb).1;rw [hdb] at this;exact absurd hda this.1
  · intro i j t a b hij ha hb hdb ht;have := (pair i j a b hij ha hb).1;rw [hdb] at this;exact this.2 ht
  · intro i j a b hij ha hb;exact (pair i j a b hij ha hb).2
end Go.Eng
namespace Go.Eng
open Go
set_option linter.unusedSectionVars false
set_option linter.unusedVariables false
set_option linter.unusedSimpArgs false
variable [Glob]
theorem exOps_trace {F : FT} : ∀ (is : List IOp) {env envn : List V} {H Hn : Heap},exOps F is env H = some (envn,Hn) →
    ∃ (E : Nat → List V) (Hs : Nat → Heap),E 0 = env ∧ Hs 0 = H ∧ E is.length = envn ∧ Hs is.length = Hn ∧ ∀ (i : Nat) (o : IOp),is[i]? = some o → exOp F o (E i) (Hs i) = some (E (i + 1),Hs (i + 1))
  | [],env,envn,H,Hn,h => by
    simp only [exOps,Option.some.injEq,Prod.mk.injEq] at h;obtain ⟨rfl,rfl⟩ := h;exact ⟨fun _ => env,fun _ => H,rfl,rfl,rfl,rfl,fun i o h => by simp at h⟩
  | o :: r,env,envn,H,Hn,h => by
    simp only [exOps] at h
    split at h
    · rename_i env1 H1 h1
      obtain ⟨E,Hs,e1,e2,e3,e4,e5⟩ := exOps_trace r h;refine ⟨fun i => match i with | 0 => env | i + 1 => E i,fun i => match i with | 0 => H | i + 1 => Hs i,rfl,rfl,e3,e4,fun i p hp => ?_⟩;cases i with
      | zero => simp at hp; subst hp; show exOp F o env H = some (E 0,Hs 0); rw [e1,e2]; exact h1
      | succ i => exact e5 i p (by simpa using hp)
    · cases h
section
variable {P : Program} {F : FT} {ops : Array Oper} {is : List IOp}
theorem wanted_hyp : True := trivial
theorem draw_sim (hF : FSim P F) {Q : Exit → Act → World → Prop} (hc : all2 (chkOp P ops) ops.toList is = true) (hd : DrawOk ops is) {env0 envn : List V} {H0 Hn : Heap}
    (hex : exOps F is env0 H0 = some (envn,Hn)) {wr0 : Nat → Prop} {W0 : World} {own0' : Own} {a0 : Act} (s0 : Sim wr0 W0 own0' H0 env0 a0.tmps)
    (hQ : ∀ a' W' wr' own',Ext wr0 W0 own0' wr' W' own' → Sim wr' W' own' Hn envn a'.tmps → a'.defers = a0.defers → Q .normal a' W') :
    wpAny P .any ops Q ops.size (Array.replicate ops.size false) a0 W0 := by
  obtain ⟨E,Hs,t1,t2,t3,t4,t5⟩ := exOps_trace is hex;obtain ⟨c1,c2⟩ := all2_get hc;have hlen : is.length = ops.size := by simpa using c1.symm
  have shape : ∀ (i : Nat) (o : IOp),is[i]? = some o → ∃ v,E (i + 1) = put (E i) o.dst v ∧ (o.k.quiet = true → Hs (i + 1) = Hs i) := by
    intro i o ho;obtain ⟨v,h1,h2,_⟩ := exOp_congr (t5 i o ho) (fun t _ => rfl) (fun _ => rfl);exact ⟨v,h1,h2⟩
  have lenE : ∀ i,i ≤ is.length → (E i).length = env0.length := by
    intro i
    induction i with
    | zero => intro _; rw [t1]
    | succ i ih =>
      intro hi;obtain ⟨v,h1,_⟩ := shape i is[i] (List.getElem?_eq_getElem (by omega));rw [h1,← ih (by omega)];cases is[i].dst <;> simp [put]
  have envAt : ∀ (t : Nat),(∀ (j : Nat) (o : IOp),is[j]? = some o → o.dst ≠ some t) → ∀ i,i ≤ is.length → (E i).getD t .un = env0.getD t .un := by
    intro t ht i
    induction i with
    | zero => intro _; rw [t1]
    | succ i ih =>
      intro hi;have ho := List.getElem?_eq_getElem (l := is) (i := i) (by omega);obtain ⟨v,h1,_⟩ := shape i _ ho;rw [h1,← ih (by omega)];have := ht i _ ho;cases hdd : is[i].dst with
      | none => rfl
      | some d =>
        have hne : d ≠ t := by rintro rfl; exact this hdd
        simp [put,List.getD,List.getElem?_set_ne hne]
  have envAt2 : ∀ (t j : Nat) (o : IOp),is[j]? = some o → o.dst = some t → ∀ i,i ≤ is.length → (E i).getD t .un = if j < i then envn.getD t .un else env0.getD t .un := by
    intro t j o hj hdj;have hjl : j < is.length := (List.getElem?_eq_some_iff.mp hj).1;have other : ∀ i,i < is.length → i ≠ j → (E (i + 1)).getD t .un = (E i).getD t .un := by
      intro i hi hij;have ho := List.getElem?_eq_getElem (l := is) hi;obtain ⟨v,h1,_⟩ := shape i _ ho;rw [h1];cases hdd : is[i].dst with
      | none => rfl
      | some d =>
        have hne : d ≠ t := by rintro rfl; exact hij (hd.dst i j d _ _ ho hj hdd hdj)
        simp [put,List.getD,List.getElem?_set_ne hne]
    have low : ∀ i,i ≤ j → (E i).getD t .un = env0.getD t .un := by
      intro i
      induction i with
      | zero => intro _; rw [t1]
      | succ i ih => intro hi; rw [other i (by omega) (by omega),ih (by omega)]
    have high : ∀ d,j + 1 + d ≤ is.length → (E (j + 1 + d)).getD t .un = (E (j + 1)).getD t .un := by
      intro d
      induction d with
      | zero => intro _; rfl
      | succ d ih => intro hi; rw [show j + 1 + (d + 1) = (j + 1 + d) + 1 by omega,other (j + 1 + d) (by omega) (by omega),ih (by omega)]
    intro i hi
    split
    · rename_i hji
      have e1 := high (i - (j + 1)) (by omega);have e2 := high (is.length - (j + 1)) (by omega);rw [show j + 1 + (i - (j + 1)) = i by omega] at e1;rw [show j + 1 + (is.length - (j + 1)) = is.length by omega,t3] at e2;rw [e1,e2]
    · exact low i (by omega)
  have hsame : ∀ d i,i + d ≤ is.length → (∀ (k : Nat) (o : IOp),i ≤ k → k < i + d → is[k]? = some o → o.k.quiet = true) → Hs (i + d) = Hs i := by
    intro d
    induction d with
    | zero => intro i _ _; rfl
    | succ d ih =>
      intro i hi hq;have ho := List.getElem?_eq_getElem (l := is) (i := i + d) (by omega);obtain ⟨v,_,h2⟩ := shape (i + d) _ ho;rw [show i + (d + 1) = (i + d) + 1 by omega,h2 (hq _ _ (by omega) (by omega) ho),ih i (by omega) (fun k o h1 h2 => hq k o h1 (by omega))]
  let listedP := fun (l : Array Bool) (i : Nat) => l.getD i false = true
  suffices key : ∀ (fuel : Nat) (l : Array Bool) (a : Act) (W : World) (wr : Nat → Prop) (own : Own) (p : Nat),l.size = ops.size → Ext wr0 W0 own0' wr W own →
      (∀ (i : Nat) (o : Oper) (e : Edge),l.getD i false = true → ops[i]? = some o → e ∈ o.after.toList → Region.binds .any e = true → l.getD e.on false = true) →
      p ≤ is.length → (∀ (w : Nat) (o : IOp),is[w]? = some o → o.k.quiet = false → (l.getD w false = true ↔ w < p)) →
      St wr W own (Hs p) → env0.length ≤ a.tmps.size → a.defers = a0.defers →
      (∀ (t : Nat),(∀ (j : Nat) (o : IOp),is[j]? = some o → o.dst ≠ some t) → VR wr W own (env0.getD t .un) (a.tmps.getD t undef)) →
      (∀ (t j : Nat) (o : IOp),is[j]? = some o → o.dst = some t → VR wr W own (if l.getD j false = true then envn.getD t .un else env0.getD t .un) (a.tmps.getD t undef)) →
      ((List.range ops.size).filter (fun i => !l.getD i false)).length ≤ fuel →
      wpAny P .any ops Q fuel l a W by
    refine key ops.size _ a0 W0 wr0 own0' 0 (by simp) (Ext.refl _ _ _) ?_ (Nat.zero_le _) ?_ (by rw [t2]; exact s0.st) s0.sz rfl (fun t _ => s0.vals t) ?_ ?_
    · intro i o e hl;have : (Array.replicate ops.size false).getD i false = false := by
        simp only [Array.getD_eq_getD_getElem?,Array.getElem?_replicate]; split <;> rfl
      rw [this] at hl; cases hl
    · intro w o _ _;have : (Array.replicate ops.size false).getD w false = false := by
        simp only [Array.getD_eq_getD_getElem?,Array.getElem?_replicate]; split <;> rfl
      rw [this]; simp
    · intro t j o _ _;have : (Array.replicate ops.size false).getD j false = false := by
        simp only [Array.getD_eq_getD_getElem?,Array.getElem?_replicate]; split <;> rfl
      rw [this]; simpa using s0.vals t
    · exact Nat.le_trans (List.length_filter_le _ _) (by simp)
  have precLt : ∀ j i,Prec ops j i → j < i := by
    intro j i h
    induction h with
    | edge ho he hb => exact hd.edge _ _ _ ho he hb
    | step ho he hb h ih => exact Nat.lt_trans ih (hd.edge _ _ _ ho he hb)
  have precIn : ∀ (l : Array Bool),(∀ (i : Nat) (o : Oper) (e : Edge),l.getD i false = true → ops[i]? = some o → e ∈ o.after.toList → Region.binds .any e = true → l.getD e.on false = true) →
      ∀ j i,Prec ops j i → (∀ (o : Oper) (e : Edge),ops[i]? = some o → e ∈ o.after.toList → Region.binds .any e = true → l.getD e.on false = true) → l.getD j false = true := by
    intro l hcl j i h
    induction h with
    | edge ho he hb => intro hi; exact hi _ _ ho he hb
    | step ho he hb h ih => intro hi; exact ih (fun o e h1 h2 h3 => hcl _ o e (hi _ _ ho he hb) h1 h2 h3)
  have heap_eq : ∀ p q,p ≤ is.length → q ≤ is.length → (∀ (w : Nat) (o : IOp),is[w]? = some o → o.k.quiet = false → (w < p ↔ w < q)) → Hs p = Hs q := by
    have one : ∀ p q,p ≤ q → q ≤ is.length → (∀ (w : Nat) (o : IOp),is[w]? = some o → o.k.quiet = false → (w < p ↔ w < q)) → Hs q = Hs p := by
      intro p q hpq hq hw;have := hsame (q - p) p (by omega) (fun k o h1 h2 hk => by
        cases hqk : o.k.quiet with
        | true => rfl
        | false => have := hw k o hk hqk; omega)
      rwa [show p + (q - p) = q by omega] at this
    intro p q hp hq hw;rcases Nat.le_total p q with h | h
    · exact (one p q h hq hw).symm
    · exact one q p h hp (fun w o h1 h2 => (hw w o h1 h2).symm)
  have finish : ∀ (l : Array Bool) (a : Act) (W : World) (wr : Nat → Prop) (own : Own) (p : Nat),Ext wr0 W0 own0' wr W own →
      p ≤ is.length → (∀ (w : Nat) (o : IOp),is[w]? = some o → o.k.quiet = false → (l.getD w false = true ↔ w < p)) →
      St wr W own (Hs p) → env0.length ≤ a.tmps.size → a.defers = a0.defers →
      (∀ (t : Nat),(∀ (j : Nat) (o : IOp),is[j]? = some o → o.dst ≠ some t) → VR wr W own (env0.getD t .un) (a.tmps.getD t undef)) →
      (∀ (t j : Nat) (o : IOp),is[j]? = some o → o.dst = some t → VR wr W own (if l.getD j false = true then envn.getD t .un else env0.getD t .un) (a.tmps.getD t undef)) →
      (∀ i,i < ops.size → l.getD i false = true) → Q .normal a W := by
    intro l a W wr own p hext hp hst hs hsz hdf hv1 hv2 hall;refine hQ a W wr own hext ⟨?_,?_,?_⟩ hdf
    · have e : Hs p = Hs is.length := heap_eq p is.length hp (Nat.le_refl _) (fun w o hw hq => by
        have hwl : w < is.length := (List.getElem?_eq_some_iff.mp hw).1;have := hst w o hw hq;rw [hall w (by omega)] at this
        simp at this; omega)
      rw [← t4,← e]; exact hs
    · intro t
      by_cases ht : ∃ (j : Nat) (o : IOp),is[j]? = some o ∧ o.dst = some t
      · obtain ⟨j,o,hj,hdj⟩ := ht;have := hv2 t j o hj hdj
        rwa [if_pos (hall j (by rw [← hlen]; exact (List.getElem?_eq_some_iff.mp hj).1))] at this
      · have hno : ∀ (j : Nat) (o : IOp),is[j]? = some o → o.dst ≠ some t := fun j o hj hdj => ht ⟨j,o,hj,hdj⟩
        have := envAt t hno is.length (Nat.le_refl _);rw [t3] at this;rw [this]; exact hv1 t hno
    · have := lenE is.length (Nat.le_refl _);rw [t3] at this; rw [this]; exact hsz
  have allOf : ∀ (l : Array Bool),l.size = ops.size → Region.ready .any ops l = [] → ∀ i,i < ops.size → l.getD i false = true := by
    intro l hl hr i
    induction i using Nat.strongRecOn with
    | _ i ih =>
      intro hi;cases hli : l.getD i false with
      | true => rfl
      | false =>
        exfalso
        have hm : i ∈ Region.ready .any ops l := by
          rw [mem_ready];refine ⟨?_,ops[i],by simp,fun e he hb => ?_⟩
          · simp only [Array.getD_eq_getD_getElem?] at hli ⊢;have : i < l.size := by omega
            simp [this] at hli ⊢; exact hli
          · have hlt := hd.edge i ops[i] e (by simp) (by simpa using he) hb;exact ih e.on hlt (by omega)
        rw [hr] at hm; simp at hm
  intro fuel
  induction fuel with
  | zero =>
    intro l a W wr own p hl hext hcl hp hst hs hsz hdf hv1 hv2 hm;have hall : ∀ i,i < ops.size → l.getD i false = true := by
      intro i hi;have hnil : (List.range ops.size).filter (fun i => !l.getD i false) = [] := List.eq_nil_of_length_eq_zero (by omega);have := List.filter_eq_nil_iff.mp hnil i (by simpa using hi)
      simpa using this
    refine ⟨?_,finish l a W wr own p hext hp hst hs hsz hdf hv1 hv2 hall⟩;apply List.eq_nil_iff_forall_not_mem.mpr;intro i hi;rw [mem_ready] at hi;obtain ⟨h0,o,ho,_⟩ := hi;have hlt : i < ops.size := (Array.getElem?_eq_some_iff.mp ho).1;have := hall i hlt;simp only [Array.getD_eq_getD_getElem?] at this h0;have hi' : i < l.size := by omega
    simp [hi'] at this h0
    rw [this] at h0; cases h0
  | succ fuel ih =>
    intro l a W wr own p hl hext hcl hp hst hs hsz hdf hv1 hv2 hm;refine ⟨fun hr => finish l a W wr own p hext hp hst hs hsz hdf hv1 hv2 (allOf l hl hr),?_⟩;intro i hi;rw [mem_ready] at hi;obtain ⟨hi0,o,ho,hpre⟩ := hi;have hilt : i < ops.size := (Array.getElem?_eq_some_iff.mp ho).1;have hio := List.getElem?_eq_getElem (l := is) (i := i) (by omega)
    generalize hgen : is[i] = io at hio
    have hli : l.getD i false = false := by
      simp only [Array.getD_eq_getD_getElem?] at hi0 ⊢;have hi' : i < l.size := by omega
      simp [hi'] at hi0 ⊢; exact hi0
    have hpre' : ∀ (o' : Oper) (e : Edge),ops[i]? = some o' → e ∈ o'.after.toList → Region.binds .any e = true → l.getD e.on false = true := by
      intro o' e ho' he hb;rw [ho] at ho'; cases ho';exact hpre e (by simpa using he) hb
    have cmpr : ∀ j,j ≠ i → Prec ops j i ∨ Prec ops i j → (l.getD j false = true ↔ j < i) := by
      intro j hji hc;rcases hc with hc | hc
      · have h1 := precLt _ _ hc;have h2 := precIn l hcl _ _ hc hpre'
        simp [h1,h2]
      · have h1 := precLt _ _ hc
        constructor
        · intro hlj;have := precIn l hcl _ _ hc (fun o' e h1 h2 h3 => hcl j o' e hlj h1 h2 h3);rw [hli] at this; cases this
        · intro h; omega
    let val : Nat → V := fun t => @ite _ (∃ (j : Nat) (o : IOp),is[j]? = some o ∧ o.dst = some t ∧ l.getD j false = true) (Classical.propDecidable _) (envn.getD t .un) (env0.getD t .un)
    have val1 : ∀ t,(∀ (j : Nat) (o : IOp),is[j]? = some o → o.dst ≠ some t) → val t = env0.getD t .un := by
      intro t ht;simp only [val];rw [if_neg];rintro ⟨j,o,hj,hdj,_⟩;exact ht j o hj hdj
    have val2 : ∀ (t j : Nat) (o : IOp),is[j]? = some o → o.dst = some t → val t = if l.getD j false = true then envn.getD t .un else env0.getD t .un := by
      intro t j o hj hdj;simp only [val]
      by_cases hlj : l.getD j false = true
      · rw [if_pos hlj,if_pos ⟨j,o,hj,hdj,hlj⟩]
      · rw [if_neg hlj,if_neg];rintro ⟨j',o',hj',hdj',hlj'⟩;have := hd.dst _ _ _ _ _ hj hj' hdj hdj';subst this;exact hlj hlj'
    let ES := (List.range env0.length).map val
    have hlenn : envn.length = env0.length := by have := lenE is.length (Nat.le_refl _); rwa [t3] at this
    have valout : ∀ t,env0.length ≤ t → val t = .un := by
      intro t ht;simp only [val]
      split
      · simp [List.getD,List.getElem?_eq_none (show envn.length ≤ t by omega)]
      · simp [List.getD,List.getElem?_eq_none ht]
    have ESget : ∀ t,ES.getD t .un = val t := by
      intro t
      by_cases ht : t < env0.length
      · simp [ES,List.getD,ht]
      · rw [valout t (by omega)]
        simp [ES,List.getD,ht]
    have ESvr : ∀ t,VR wr W own (ES.getD t .un) (a.tmps.getD t undef) := by
      intro t;rw [ESget]
      by_cases ht : ∃ (j : Nat) (o : IOp),is[j]? = some o ∧ o.dst = some t
      · obtain ⟨j,o,hj,hdj⟩ := ht;rw [val2 t j o hj hdj]; exact hv2 t j o hj hdj
      · have hno : ∀ (j : Nat) (o : IOp),is[j]? = some o → o.dst ≠ some t := fun j o hj hdj => ht ⟨j,o,hj,hdj⟩
        rw [val1 t hno]; exact hv1 t hno
    have hile : i ≤ is.length := by omega
    have hagree : Agree (E i) ES io.tm := by
      intro t ht;rw [ESget]
      by_cases htw : ∃ (j : Nat) (o : IOp),is[j]? = some o ∧ o.dst = some t
      · obtain ⟨j,o',hj,hdj⟩ := htw;rw [val2 t j o' hj hdj,envAt2 t j o' hj hdj i hile]
        by_cases hji : j = i
        · subst hji; simp [hli]
        · have := cmpr j hji (hd.nam i j t io o' (Ne.symm hji) hio hj hdj ht)
          by_cases hji' : j < i
          · rw [if_pos hji',if_pos (this.mpr hji')]
          · rw [if_neg hji',if_neg (fun h => hji' (this.mp h))]
      · have hno : ∀ (j : Nat) (o : IOp),is[j]? = some o → o.dst ≠ some t := fun j o hj hdj => htw ⟨j,o,hj,hdj⟩
        rw [val1 t hno,envAt t hno i hile]
    have hwr : io.hp = true → ∀ (w : Nat) (o' : IOp),is[w]? = some o' → o'.k.quiet = false → (w < p ↔ w < i) := by
      intro hhp w o' hw hq
      by_cases hwi : w = i
      · subst hwi;have := hst w o' hw hq;rw [hli] at this
        simp at this; omega
      · have h1 := hst w o' hw hq;have h2 := cmpr w hwi ((hd.wrt w i o' io hwi hw hio hq hhp).symm);rw [← h1,h2]
    have hheap : io.hp = true → Hs i = Hs p := fun hhp => heap_eq i p hile hp (fun w o' hw hq => (hwr hhp w o' hw hq).symm)
    obtain ⟨v,e1,e2,e3⟩ := exOp_congr (t5 i io hio) hagree hheap;have hchk := c2 i o io (by simpa using ho) hio;have hsim : Sim wr W own (Hs p) ES a.tmps := ⟨hs,ESvr,by simpa [ES] using hsz⟩;unfold wpOp;rw [ho];refine exOp_sim hF hchk hsim e3 (fun a' W' wr' own' x1 x2 x3 => ?_);have hsetlen : (put ES io.dst v).length = env0.length := by cases io.dst <;> simp [put,ES]
    have hpn : i < is.length := by omega
    refine ih (l.setIfInBounds i true) a' W' wr' own' (if io.k.quiet then p else i + 1) (by simpa using hl) (hext.trans x1) ?_ (by split <;> omega) ?_ ?_ (by have := x2.sz; omega) (by rw [x3,hdf]) ?_ ?_ ?_
    · intro k o' e hk ho' he hb
      by_cases hki : k = i
      · subst hki; exact getD_set_true (hpre' o' e ho' he hb)
      · rw [getD_set_ne false (Ne.symm hki)] at hk;exact getD_set_true (hcl k o' e hk ho' he hb)
    · intro w o' hw hq;cases hqi : io.k.quiet with
      | true =>
        have hwi : w ≠ i := by rintro rfl; rw [hio] at hw; cases hw; rw [hqi] at hq; cases hq
        rw [getD_set_ne false (Ne.symm hwi)]
        simpa using hst w o' hw hq
      | false =>
        simp only [Bool.false_eq_true,if_false]
        by_cases hwi : w = i
        · subst hwi;have hi' : w < l.size := by omega
          simp [Array.getD_eq_getD_getElem?,hi']
        · rw [getD_set_ne false (Ne.symm hwi),hst w o' hw hq,hwr (by simp [IOp.hp,hqi]) w o' hw hq]
          omega
    · have := x2.st;cases hqi : io.k.quiet with
      | true => rw [hqi] at this; simpa using this
      | false => rw [hqi] at this; simpa using this
    · intro t ht;have hne : io.dst ≠ some t := ht i io hio;have := x2.vals t;have e : (put ES io.dst v).getD t .un = ES.getD t .un := by
        cases hdd : io.dst with
        | none => rfl
        | some d =>
          have hdt : d ≠ t := by rintro rfl; exact hne hdd
          simp [put,List.getD,List.getElem?_set_ne hdt]
      rw [e,ESget,val1 t ht] at this;exact this
    · intro t j o' hj hdj;have := x2.vals t
      by_cases hji : j = i
      · subst hji;rw [hio] at hj; cases hj;have hi' : j < l.size := by omega
        have hlj : (l.setIfInBounds j true).getD j false = true := by simp [Array.getD_eq_getD_getElem?,hi']
        rw [if_pos hlj];have q1 := envAt2 t j io hio hdj (j + 1) (by omega);rw [if_pos (Nat.lt_succ_self j),e1] at q1;have q2 : (put ES io.dst v).getD t .un = (put (E j) io.dst v).getD t .un := by
          rw [hdj];simp only [put,List.getD];have l1 : ES.length = env0.length := by simp [ES]
          have l2 := lenE j (by omega)
          by_cases ht : t < env0.length
          · rw [List.getElem?_set_self (by omega),List.getElem?_set_self (by omega)]
          · rw [List.getElem?_eq_none (by simp; omega),List.getElem?_eq_none (by simp; omega)]
        rw [q2,q1] at this;exact this
      · have hdne : io.dst ≠ some t := fun h => hji (hd.dst _ _ _ _ _ hj hio hdj h)
        have e : (put ES io.dst v).getD t .un = ES.getD t .un := by
          cases hdd : io.dst with
          | none => rfl
          | some d =>
            have hdt : d ≠ t := by rintro rfl; exact hdne hdd
            simp [put,List.getD,List.getElem?_set_ne hdt]
        rw [e,ESget,val2 t j o' hj hdj] at this;rw [getD_set_ne false (Ne.symm hji)];exact this
    · have hsub : (List.range ops.size).filter (fun k => !(l.setIfInBounds i true).getD k false) = ((List.range ops.size).filter (fun k => !l.getD k false)).filter (fun k => k != i) := by
        rw [List.filter_filter];apply List.filter_congr;intro k hk
        by_cases hki : k = i
        · subst hki;have hi' : k < l.size := by omega
          have e : (l.setIfInBounds k true).getD k false = true := by simp [Array.getD_eq_getD_getElem?,hi']
          rw [e]; simp
        · rw [getD_set_ne false (Ne.symm hki)]
          simp [hki]
      rw [hsub];have : (((List.range ops.size).filter (fun k => !l.getD k false)).filter (fun k => k != i)).length < ((List.range ops.size).filter (fun k => !l.getD k false)).length := by
        rw [List.length_filter_lt_length_iff_exists];exact ⟨i,List.mem_filter.mpr ⟨by simpa using hilt,by rw [hli]; rfl⟩,by simp⟩
      omega
end
end Go.Eng
