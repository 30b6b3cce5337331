/- Operations that change memory, told as the model's; rows of operations (no condition beyond those stated). -/
import Derived.Test.YtphkdodiphiijaaDoorEngJ
namespace Go.Eng
open Go
set_option linter.unusedSectionVars false
set_option linter.unusedVariables false
set_option linter.unusedSimpArgs false
variable [Glob]

section
variable {wr : Nat → Prop} {W : World} {own : Own} {P : Program}

theorem evw_sim {F : FT} (hF : FSim P F) {o : Oper} {k : Kind} (hk : chkK P o.op k = true) (hq : k.quiet = false) {H H' : Heap} (s : St wr W own H) {env : List V} {a : Act}
    (hv : ∀ t, VR wr W own (env.getD t .un) (a.tmps.getD t undef)) {v : V} (h : evw F env H k = some (v, H')) {K : Act → World → Prop} {Q : Exit → Act → World → Prop}
    (hK : ∀ v' W' wr' own', Ext wr W own wr' W' own' → St wr' W' own' H' → VR wr' W' own' v v' → K (a.put o.dst v') W') : o.wp P a W K Q := by
  obtain ⟨dst, op, ty, pos, after, guard⟩ := o
  dsimp only at hk
  unfold chkK at hk
  split at hk <;> (try (simp only [Kind.quiet, Bool.true_eq_false] at hq; done)) <;> (try simp only [Bool.and_eq_true, beq_iff_eq, decide_eq_true_eq] at hk)
  case h_9 =>
    obtain ⟨⟨h1, h2⟩, h3⟩ := hk
    simp only [evw, Option.map_eq_some_iff] at h
    obtain ⟨H2, hst, he⟩ := h
    cases he
    obtain ⟨W', r1, wr', own', r2, r3⟩ := st_run h3 s (opd_sim s.glob hv h1) (opd_sim s.glob hv h2) hst
    unfold Oper.wp
    simp only [execOp, Sem.run_bind, r1, Result.andThen_ok, Sem.run_pure, Oper.upon_skip]
    exact hK _ W' wr' own' r2 r3 .sk
  case h_14 t0 x x' fr =>
    cases fr with
    | true => simp [Kind.quiet] at hq
    | false =>
      simp only [evw] at h
      split at h
      · rename_i hb
        cases h
        obtain ⟨r1, wr', own', r2, r3, r4⟩ := box_run (P := P) (t := t0) s (opd_sim s.glob hv hk) hb
        unfold Oper.wp
        rw [show (execOp a.eval ⟨dst, .box t0 x, ty, pos, after, guard⟩) = (do pure (Next.value (← Instr.box t0 (a.eval x)))) from rfl, run_v r1, Oper.upon_value]
        exact hK _ _ wr' own' r2 r3 r4
      · cases h
  case h_16 t0 zc =>
    simp only [evw, Option.some.injEq, Prod.mk.injEq] at h
    obtain ⟨rfl, rfl⟩ := h
    obtain ⟨v', W', r1, wr', own', r2, r3, r4⟩ := alloc_run hk s
    unfold Oper.wp
    rw [show (execOp a.eval ⟨dst, .alloc t0, ty, pos, after, guard⟩) = (do pure (Next.value (← Instr.alloc t0 true (.tuple #[])))) from rfl, run_v r1, Oper.upon_value]
    exact hK _ _ wr' own' r2 r3 r4
  case h_18 t0 n parts z ag n' zero ps fr =>
    cases fr with
    | true => simp [Kind.quiet] at hq
    | false =>
      obtain ⟨⟨⟨⟨rfl, h1⟩, h2⟩, h3⟩, h4⟩ := hk
      obtain ⟨v', W', r1, _, r2⟩ := bsl_run (P := P) h1 h2 h3 h4 hv s.toRd (fun _ => s) h
      obtain ⟨wr', own', r3, r4, r5⟩ := r2 rfl
      unfold Oper.wp
      rw [show (execOp a.eval ⟨dst, .buildSlice t0 n parts, ty, pos, after, guard⟩) = (do pure (Next.value (← Instr.buildSlice t0 n (parts.map fun (i, x) => (i, a.eval x))))) from rfl, run_v r1, Oper.upon_value]
      exact hK _ _ wr' own' r3 r4 r5
  case h_19 t0 l c z ag zc by_ l' c' =>
    obtain ⟨⟨⟨h1, h2⟩, h3⟩, h4⟩ := hk
    obtain ⟨v', W', r1, wr', own', r2, r3, r4⟩ := mks_run h3 h4 s (opd_sim s.glob hv h1) (opd_sim s.glob hv h2) h
    unfold Oper.wp
    rw [show (execOp a.eval ⟨dst, .makeSlice t0 l c, ty, pos, after, guard⟩) = (do pure (Next.value (← Instr.makeSlice t0 (a.eval l) (a.eval c)))) from rfl, run_v r1, Oper.upon_value]
    exact hK _ _ wr' own' r2 r3 r4
  case h_21 c sv x z ag by_ =>
    obtain ⟨h1, h2⟩ := hk
    split at h1
    · rename_i hc
      split at h2
      · rename_i s' x' st xt ha hat
        simp only [Bool.and_eq_true, Bool.not_eq_true'] at h2
        obtain ⟨⟨⟨⟨⟨q1, q2⟩, q3⟩, q4⟩, q5⟩, q6⟩ := h2
        have e1 : c.args = #[s', x'] := by rw [← Array.toList_inj, ha]
        have e2 : c.argTypes = #[st, xt] := by rw [← Array.toList_inj, hat]
        obtain ⟨v', W', r1, wr', own', r2, r3, r4⟩ := app_run (ty := ty) q3 q4 q5 q6 s (opd_sim s.glob hv q1) (opd_sim s.glob hv q2) h
        have e : (execOp a.eval ⟨dst, .call c, ty, pos, after, guard⟩) = (do pure (Next.value (← Builtin.append_ #[st, xt] ty #[a.eval s', a.eval x']))) := by
          simp only [execOp, resolve, hc, e1, e2, pure_bind, invoke, builtin, List.map_toArray, List.map_cons, List.map_nil]
        unfold Oper.wp
        rw [e, run_v r1, Oper.upon_value]
        exact hK _ _ wr' own' r2 r3 r4
      · cases h2
    · cases h1
  case h_40 t0 r0 =>
    simp only [evw, Option.some.injEq, Prod.mk.injEq] at h
    obtain ⟨rfl, rfl⟩ := h
    have hr : r0 = none := by simpa using hk
    subst hr
    obtain ⟨v', W', r1, wr', own', r2, r3, r4⟩ := mkmp_run (P := P) s (t := t0)
    unfold Oper.wp
    rw [show (execOp a.eval ⟨dst, .makeMap t0 none, ty, pos, after, guard⟩) = (do pure (Next.value (← Instr.makeMap t0 none))) from rfl, run_v r1, Oper.upon_value]
    exact hK _ _ wr' own' r2 r3 r4
  case h_42 t0 m0 k0 x0 m1 k1 x1 =>
    obtain ⟨⟨⟨h1, h2⟩, h3⟩, h4⟩ := hk
    simp only [evw, Option.map_eq_some_iff] at h
    obtain ⟨H2, hst, he⟩ := h
    cases he
    obtain ⟨W', r1, wr', own', r2, r3⟩ := mset_run s h4 (opd_sim s.glob hv h1) (opd_sim s.glob hv h2) (opd_sim s.glob hv h3) hst
    unfold Oper.wp
    simp only [execOp, Sem.run_bind, r1, Result.andThen_ok, Sem.run_pure, Oper.upon_skip]
    exact hK _ W' wr' own' r2 r3 .sk
  case h_43 t0 m0 k0 x0 m1 k1 x1 =>
    obtain ⟨⟨⟨h1, h2⟩, h3⟩, h4⟩ := hk
    simp only [evw, Option.map_eq_some_iff] at h
    obtain ⟨H2, hst, he⟩ := h
    cases he
    obtain ⟨W', r1, wr', own', r2, r3⟩ := mset_run s h4 (opd_sim s.glob hv h1) (opd_sim s.glob hv h2) (opd_sim s.glob hv h3) hst
    unfold Oper.wp
    simp only [execOp, Sem.run_bind, r1, Result.andThen_ok, Sem.run_pure, Oper.upon_skip]
    exact hK _ W' wr' own' r2 r3 .sk
  case h_44 c m0 k0 =>
    obtain ⟨h1, h2⟩ := hk
    split at h1
    · rename_i hc
      split at h2
      · rename_i m1 k1 t' _ ha hat
        simp only [Bool.and_eq_true] at h2
        obtain ⟨⟨q1, q2⟩, q3⟩ := h2
        have e1 : c.args = #[m1, k1] := by rw [← Array.toList_inj, ha]
        have e2 : c.argTypes[0]? = some t' := by rw [← Array.getElem?_toList, hat]; rfl
        simp only [evw, Option.map_eq_some_iff] at h
        obtain ⟨H2, hst, he⟩ := h
        cases he
        obtain ⟨W', r1, wr', own', r2, r3⟩ := mdel_run (P := P) (ty := ty) s e2 q3 (opd_sim s.glob hv q1) (opd_sim s.glob hv q2) hst
        have e : (execOp a.eval ⟨dst, .call c, ty, pos, after, guard⟩) = (do pure (Next.value (← Builtin.delete_ c.argTypes ty #[a.eval m1, a.eval k1]))) := by
          simp only [execOp, resolve, hc, e1, pure_bind, invoke, builtin, List.map_toArray, List.map_cons, List.map_nil]
        unfold Oper.wp
        rw [e, run_v r1, Oper.upon_value]
        exact hK _ _ wr' own' r2 r3 (.tup rfl (fun j c hj => by simp at hj))
      · cases h2
    · cases h1
  case h_48 c x z zc =>
    obtain ⟨h1, h2⟩ := hk
    split at h1
    · rename_i hc
      split at h2
      · rename_i x' t' ha hat
        simp only [Bool.and_eq_true] at h2
        obtain ⟨q1, q2⟩ := h2
        split at q2
        · rename_i e he
          simp only [Bool.and_eq_true, beq_iff_eq, decide_eq_true_eq] at q2
          obtain ⟨⟨⟨w1, w2⟩, w3⟩, w4⟩ := q2
          have e1 : c.args = #[x'] := by rw [← Array.toList_inj, ha]
          have e2 : c.argTypes = #[t'] := by rw [← Array.toList_inj, hat]
          obtain ⟨v', W', r1, wr', own', r2, r3, r4⟩ := clr_run (ty := ty) (sliceOf_eq he) w1 w2 w3 w4 s (opd_sim s.glob hv q1) h
          have e : (execOp a.eval ⟨dst, .call c, ty, pos, after, guard⟩) = (do pure (Next.value (← Builtin.clear_ #[t'] ty #[a.eval x']))) := by
            simp only [execOp, resolve, hc, e1, e2, pure_bind, invoke, builtin, List.map_toArray, List.map_cons, List.map_nil]
          unfold Oper.wp
          rw [e, run_v r1, Oper.upon_value]
          exact hK _ _ wr' own' r2 r3 r4
        · cases q2
      · cases h2
    · cases h1
  case h_23 c hp f args =>
    cases hp with
    | false => simp [Kind.quiet] at hq
    | true =>
      obtain ⟨h1, h2⟩ := hk
      split at h1
      · rename_i f' hc
        have hf := opd_sim s.glob hv h1
        simp only [evw] at h
        unfold hcall at h
        split at h
        · rename_i g caps hgf
          rw [hgf] at hf
          obtain ⟨a1, a2⟩ := args_sim s.glob hv h2
          generalize hfe : a.eval f' = w at hf
          cases hf with
          | fn hl hcv =>
            rename_i arr
            obtain ⟨hok, hsim⟩ := hF g _ H v H' h
            have hcl := hsim wr W own (c.args.map a.eval ++ arr) s (by rw [List.length_append, a1, hl, Array.size_append]) (fun j d hj => by
              rcases Nat.lt_or_ge j (args.map (·.ev env)).length with hlt | hge
              · rw [List.getElem?_append_left hlt] at hj
                have := a2 j d hj
                have hlt' : j < (c.args.map a.eval).size := by rw [← a1]; exact hlt
                rw [getD_of_some (Array.getElem?_eq_getElem hlt')] at this
                rw [getD_of_some (x := (c.args.map a.eval)[j]) (by rw [Array.getElem?_append_left hlt']; exact Array.getElem?_eq_getElem hlt')]; exact this
              · rw [List.getElem?_append_right hge] at hj
                have := hcv _ d hj
                have hlt' : j - (args.map (·.ev env)).length < arr.size := by rw [← hl]; exact (List.getElem?_eq_some_iff.mp hj).1
                rw [getD_of_some (Array.getElem?_eq_getElem hlt')] at this
                rw [getD_of_some (x := arr[j - (args.map (·.ev env)).length]) (by
                  rw [Array.getElem?_append_right (by rw [← a1]; exact hge)]
                  rw [← a1]; exact Array.getElem?_eq_getElem hlt')]; exact this)
            unfold Oper.wp
            have hr := call_run (P := P) (c := c) (ty := ty) (W := W) hc hfe hok
            rw [show (execOp a.eval ⟨dst, .call c, ty, pos, after, guard⟩) = (do let d ← resolve a.eval c ty; invoke d.target d.args) from rfl, hr, Oper.upon_enter]
            refine hcl.mono ?_
            rintro e w' ⟨v', wr', own', rfl, g1, g2, g3⟩
            exact hK v' w' wr' own' g1 g2 g3
        · rename_i g first hgf
          rw [hgf] at hf
          obtain ⟨a1, a2⟩ := args_sim s.glob hv h2
          generalize hfe : a.eval f' = w at hf
          cases hf with
          | bm hl hcv =>
            rename_i arr
            obtain ⟨hok, hsim⟩ := hF g _ H v H' h
            have hcl := hsim wr W own (arr ++ c.args.map a.eval) s (by rw [List.length_append, a1, hl, Array.size_append]) (fun j d hj => by
              rcases Nat.lt_or_ge j first.length with hlt | hge
              · rw [List.getElem?_append_left hlt] at hj
                have := hcv j d hj
                have hlt' : j < arr.size := by rw [← hl]; exact hlt
                rw [getD_of_some (Array.getElem?_eq_getElem hlt')] at this
                rw [getD_of_some (x := arr[j]) (by rw [Array.getElem?_append_left hlt']; exact Array.getElem?_eq_getElem hlt')]; exact this
              · rw [List.getElem?_append_right hge] at hj
                have := a2 _ d hj
                have hlt' : j - first.length < (c.args.map a.eval).size := by rw [← a1]; exact (List.getElem?_eq_some_iff.mp hj).1
                rw [getD_of_some (Array.getElem?_eq_getElem hlt')] at this
                rw [getD_of_some (x := (c.args.map a.eval)[j - first.length]) (by
                  rw [Array.getElem?_append_right (by rw [← hl]; exact hge)]
                  rw [← hl]; exact Array.getElem?_eq_getElem hlt')]; exact this)
            unfold Oper.wp
            have hr := call_run_m (P := P) (c := c) (ty := ty) (W := W) hc hfe hok
            rw [show (execOp a.eval ⟨dst, .call c, ty, pos, after, guard⟩) = (do let d ← resolve a.eval c ty; invoke d.target d.args) from rfl, hr, Oper.upon_enter]
            refine hcl.mono ?_
            rintro e w' ⟨v', wr', own', rfl, g1, g2, g3⟩
            exact hK v' w' wr' own' g1 g2 g3
        · cases h
      · cases h1
  case h_39 c hp f x =>
    cases hp with
    | false => simp [Kind.quiet] at hq
    | true =>
      obtain ⟨h1, h2⟩ := hk
      split at h1
      · rename_i f' hc
        have hf := opd_sim s.glob hv h1
        obtain ⟨a1, a2⟩ := args_sim s.glob hv h2
        simp only [evw] at h
        split at h
        · rename_i hE
          simp only [Option.map_eq_some_iff, Prod.mk.injEq] at h
          obtain ⟨w, h, rfl, rfl⟩ := h
          have hgf : ∃ g, f.ev env = .fn g [] := by
            unfold clnV at h; split at h
            · rename_i g _; exact ⟨g, by assumption⟩
            · cases h
          obtain ⟨g, hgf⟩ := hgf
          rw [hgf] at h hf
          obtain ⟨hok, hcl⟩ := cln_sim hF s.toRd h (vals := c.args.map a.eval) (by simp at a1; simp [← a1]) (a2 0 _ rfl) hE
          have hfe := hf.fn_nil
          unfold Oper.wp
          have hr := call_run (P := P) (c := c) (ty := ty) (W := W) hc hfe hok
          rw [show (execOp a.eval ⟨dst, .call c, ty, pos, after, guard⟩) = (do let d ← resolve a.eval c ty; invoke d.target d.args) from rfl, hr, Oper.upon_enter]
          simp only [Array.append_empty]
          refine hcl.mono ?_
          rintro e w' ⟨v', rfl, g1, g2⟩
          exact hK v' w' wr own (Ext.of_gl g1) (s.gl g1) g2
        · unfold cln1 at h
          split at h
          · rename_i g hgf
            rw [hgf] at hf
            split at h
            case isFalse => cases h
            rename_i hfree
            simp only [Option.bind_eq_some_iff] at h
            obtain ⟨⟨r, Hc⟩, hr, h⟩ := h
            split at h
            case h_2 => cases h
            rename_i b gn off len z ag hre
            simp only at hre
            subst hre
            simp only [Option.bind_eq_some_iff] at h
            obtain ⟨cs, hcs, h⟩ := h
            split at h
            case isFalse => cases h
            rename_i hcf
            cases h
            obtain ⟨hok, hsim⟩ := hF g _ [] _ Hc hr
            have hcl := hsim wr W own0 (c.args.map a.eval) (St.nil s.wr_lt s.glob) a1 (fun j d hj => by
              have hd : d = x.ev env := by
                cases j with
                | zero => simpa using hj.symm
                | succ j => simp at hj
              exact VR.of_free deepN (by rw [hd]; exact hfree) (a2 j d hj))
            have hfe := hf.fn_nil
            unfold Oper.wp
            have hrr := call_run (P := P) (c := c) (ty := ty) (W := W) hc hfe hok
            rw [show (execOp a.eval ⟨dst, .call c, ty, pos, after, guard⟩) = (do let d ← resolve a.eval c ty; invoke d.target d.args) from rfl, hrr, Oper.upon_enter]
            simp only [Array.append_empty]
            refine hcl.mono ?_
            rintro e w' ⟨v', wr1, own1, rfl, g1, g2, g3⟩
            have hgl : Gl W w' := ⟨g1.size, fun b hb => g1.same b hb (by rintro ⟨x, y, sh, N, ho⟩; simp [own0] at ho), g1.io⟩
            cases g3 with
            | sl ho hl ha hN =>
              rename_i cb sh N a0 cap
              obtain ⟨cb2, sh2, N2, ho2, hN2, ccs, tyc, lo, hi, hheap, hsz, hfr, hc2⟩ := (g2.live b gn cs (rdB_some hcs)).resolve_right (by rintro ⟨rfl, h, _⟩; rw [h] at ho; cases ho)
              rw [ho] at ho2; cases ho2
              have hcbn : W.heap.size ≤ cb := by
                rcases g1.news cb ⟨_, _, _, _, ho⟩ with ⟨p, q, s1, s2, h⟩ | h
                · simp [own0] at h
                · exact h
              obtain ⟨wr', own', x1, x2, x3⟩ := s.change0 (b := H.length) (g' := 0) (cs' := cs) (cb' := cb) (sh' := sh) (N' := ccs.size) (H' := H ++ [(0, cs)]) (W' := w') (ccs := ccs) (ty := tyc) (lo := lo) (hi := hi)
                (fun x hx => by
                  rcases Nat.lt_or_ge x H.length with h | h
                  · rw [List.getElem?_append_left h]
                  · rw [List.getElem?_eq_none h, List.getElem?_eq_none (by simp; omega)]) (by simp) (by simp) hgl.io hgl.size (fun x hx _ => hgl.same x hx) (.inl hcbn) (fun g x h => by have := (s.fut _ _ _ h).1; omega)
                hheap rfl (fun i hi' => hfr i (by omega)) (by omega) (fun j d hj => by
                  obtain ⟨cv, q1, q2⟩ := hc2 j d hj
                  refine ⟨cv, q1, VR.mono ⟨Nat.le_refl _, fun b hb hw => ?_, fun _ _ _ => rfl⟩ (fun b g x h => by simp [own0] at h) (VR.of_free deepN (List.all_eq_true.mp hcf d (List.mem_of_getElem? hj)) q2)⟩
                  rcases hw with hw | rfl
                  · exact g1.wr_le b hw
                  · exact g2.own_wr _ _ _ _ _ ho)
              refine hK _ w' wr' own' x1 x2 (.sl x3 hl ha ?_)
              rw [hsz]; exact hN
          · cases h
      · cases h1
  case h_49 => cases hk
  all_goals (first | (simp [Kind.quiet] at hq; done) | (simp only [evw] at h; cases h; done))

theorem put_sim {env : List V} {a : Act} (hv : ∀ t, VR wr W own (env.getD t .un) (a.tmps.getD t undef)) (hsz : env.length ≤ a.tmps.size) {v : V} {v' : Value} (h : VR wr W own v v') (d : Option Nat) :
    (∀ t, VR wr W own ((put env d v).getD t .un) ((a.put d v').tmps.getD t undef)) ∧ (put env d v).length ≤ (a.put d v').tmps.size ∧ (a.put d v').defers = a.defers := by
  cases d with
  | none => exact ⟨hv, hsz, rfl⟩
  | some d =>
    refine ⟨fun t => ?_, by simp [put, Act.put, hsz], rfl⟩
    simp only [put, Act.put]
    by_cases htd : t = d
    · subst htd
      by_cases hlt : t < env.length
      · have h1 : (env.set t v).getD t .un = v := by simp [List.getD, hlt]
        have h2 : (a.tmps.setIfInBounds t v').getD t undef = v' := by
          apply getD_of_some; rw [Array.getElem?_setIfInBounds_self_of_lt (by omega)]
        rw [h1, h2]; exact h
      · have h1 : (env.set t v).getD t .un = .un := by simp [List.getD, hlt]
        rw [h1]; exact .un _
    · have h1 : (env.set d v).getD t .un = env.getD t .un := by simp [List.getD, List.getElem?_set_ne (Ne.symm htd)]
      have h2 : (a.tmps.setIfInBounds d v').getD t undef = a.tmps.getD t undef := by
        simp [Array.getD_eq_getD_getElem?, Array.getElem?_setIfInBounds_ne (Ne.symm htd)]
      rw [h1, h2]; exact hv t

theorem Sim.mono {wr' : Nat → Prop} {W' : World} {own' : Own} {env : List V} {a : Act} {H : Heap} (s : St wr W own H) (e : Ext wr W own wr' W' own') (hv : ∀ t, VR wr W own (env.getD t .un) (a.tmps.getD t undef)) :
    ∀ t, VR wr' W' own' (env.getD t .un) (a.tmps.getD t undef) := fun t => (hv t).mono (e.grow s) e.owns

/-- one operation -/
theorem exK_sim {F : FT} (hF : FSim P F) {o : Oper} {i : IOp} (hd : o.dst = i.dst) (hk : chkK P o.op i.k = true) {H H' : Heap} {env env' : List V} {a : Act} (s : Sim wr W own H env a.tmps)
    (h : exK F i env H = some (env', H')) {K : Act → World → Prop} {Q : Exit → Act → World → Prop}
    (hK : ∀ a' W' wr' own', Ext wr W own wr' W' own' → Sim wr' W' own' H' env' a'.tmps → a'.defers = a.defers → K a' W') : o.wp P a W K Q := by
  unfold exK at h
  split at h
  · rename_i hq
    simp only [Option.map_eq_some_iff, Prod.mk.injEq] at h
    obtain ⟨v, hev, rfl, rfl⟩ := h
    have hrd : Rd wr W own (if i.lo then [] else H) := by split; exact Rd.nil s.st.wr_lt s.st.glob; exact s.st.toRd
    refine evq_sim hF hk hq hrd s.vals hev (fun v' W' hg hvr => ?_)
    rw [hd]
    obtain ⟨p1, p2, p3⟩ := put_sim (wr := wr) (W := W') (own := own) (fun t => (s.vals t).gl hg) s.sz hvr i.dst
    exact hK _ W' wr own (Ext.of_gl hg) ⟨s.st.gl hg, p1, p2⟩ p3
  · rename_i hq
    simp only [Option.map_eq_some_iff, Prod.mk.injEq] at h
    obtain ⟨⟨v, H2⟩, hev, rfl, rfl⟩ := h
    refine evw_sim hF hk (by simpa using hq) s.st s.vals hev (fun v' W' wr' own' he hst hvr => ?_)
    rw [hd]
    obtain ⟨p1, p2, p3⟩ := put_sim (Sim.mono s.st he s.vals) s.sz hvr i.dst
    exact hK _ W' wr' own' he ⟨hst, p1, p2⟩ p3

theorem yielded_of {ops : Array Oper} {j t : Nat} (hj : (ops[j]?).bind (·.dst) = some t) {tmps : Array Value} :
    (∀ b, tmps.getD t undef = .bool b → yielded ops tmps j = some b) ∧ (tmps.getD t undef = undef → yielded ops tmps j = none) := by
  have h : yielded ops tmps j = match tmps[t]? with | some (.bool b) => some b | _ => none := by
    unfold yielded; rw [hj]; rfl
  rw [h]
  cases ht : tmps[t]? with
  | none => exact ⟨fun b hb => by simp [Array.getD_eq_getD_getElem?, ht, undef] at hb, fun _ => rfl⟩
  | some v =>
    have e : tmps.getD t undef = v := getD_of_some ht
    rw [e]
    exact ⟨fun b hb => by rw [hb], fun hb => by rw [hb]; rfl⟩

theorem exOp_sim {F : FT} (hF : FSim P F) {ops : Array Oper} {o : Oper} {i : IOp} (hc : chkOp P ops o i = true) {H H' : Heap} {env env' : List V} {a : Act} (s : Sim wr W own H env a.tmps)
    (h : exOp F i env H = some (env', H')) {K : Act → World → Prop} {Q : Exit → Act → World → Prop}
    (hK : ∀ a' W' wr' own', Ext wr W own wr' W' own' → Sim wr' W' own' H' env' a'.tmps → a'.defers = a.defers → K a' W') :
    if Region.wanted o (yielded ops a.tmps) then o.wp P a W K Q ∨ (o.asks P a W ∧ LetsOut Q) else K (a.put o.dst undef) W := by
  simp only [chkOp, Bool.and_eq_true, beq_iff_eq] at hc
  obtain ⟨⟨hd, hk⟩, hg⟩ := hc
  have skip : H' = H → env' = put env i.dst .sk → K (a.put o.dst undef) W := by
    rintro rfl rfl
    rw [hd]
    obtain ⟨p1, p2, p3⟩ := put_sim s.vals s.sz (.sk (wr := wr) (W := W) (own := own)) i.dst
    exact hK _ W wr own (Ext.refl _ _ _) ⟨s.st, p1, p2⟩ p3
  unfold exOp at h
  cases hog : o.guard with
  | none =>
    rw [hog] at hg
    cases hig : i.guard with
    | some p => rw [hig] at hg; cases hg
    | none =>
      rw [hig] at h
      rw [if_pos (by simp [Region.wanted, hog])]
      exact .inl (exK_sim hF hd hk s h hK)
  | some p =>
    obtain ⟨j, w⟩ := p
    rw [hog] at hg
    cases hig : i.guard with
    | none => rw [hig] at hg; cases hg
    | some p =>
      obtain ⟨t, w'⟩ := p
      rw [hig] at hg h
      simp only [Bool.and_eq_true, beq_iff_eq] at hg
      obtain ⟨rfl, hj⟩ := hg
      obtain ⟨y1, y2⟩ := yielded_of hj (tmps := a.tmps)
      have hvt := s.vals t
      dsimp only at h
      split at h
      · rename_i b hb
        rw [hb] at hvt
        have hy := y1 b hvt.bool_eq
        split at h
        · rename_i hbw
          subst hbw
          rw [if_pos (by simp [Region.wanted, hog, hy])]
          exact .inl (exK_sim hF hd hk s h hK)
        · rename_i hbw
          cases h
          rw [if_neg (by simp [Region.wanted, hog, hy, hbw])]
          exact skip rfl rfl
      · rename_i hb
        rw [hb] at hvt
        have hy := y2 (by generalize a.tmps.getD t undef = q at hvt; cases hvt; rfl)
        cases h
        rw [if_neg (by simp [Region.wanted, hog, hy])]
        exact skip rfl rfl
      · cases h

/-- a row of operations, in the order of the text -/
theorem exOps_sim {F : FT} (hF : FSim P F) {ops : Array Oper} {Q : Exit → Act → World → Prop} : ∀ (l : List Oper) (is : List IOp), all2 (chkOp P ops) l is = true →
    ∀ {wr : Nat → Prop} {W : World} {own : Own} {H H' : Heap} {env env' : List V} {a : Act}, Sim wr W own H env a.tmps → exOps F is env H = some (env', H') →
    (∀ a' W' wr' own', Ext wr W own wr' W' own' → Sim wr' W' own' H' env' a'.tmps → a'.defers = a.defers → Q .normal a' W') → wpList P ops Q l a W
  | [], [], _, wr, W, own, H, H', env, env', a, s, h, hQ => by
    simp only [exOps, Option.some.injEq, Prod.mk.injEq] at h
    obtain ⟨rfl, rfl⟩ := h
    exact hQ a W wr own (Ext.refl _ _ _) s rfl
  | o :: l, i :: is, hc, wr, W, own, H, H', env, env', a, s, h, hQ => by
    simp only [all2, Bool.and_eq_true] at hc
    simp only [exOps] at h
    split at h
    · rename_i env1 H1 h1
      unfold wpList
      refine exOp_sim hF hc.1 s h1 (fun a1 W1 wr1 own1 e1 s1 d1 => ?_)
      exact exOps_sim hF l is hc.2 s1 h (fun a2 W2 wr2 own2 e2 s2 d2 => hQ a2 W2 wr2 own2 (e1.trans e2) s2 (d2.trans d1))
    · cases h
  | [], _ :: _, hc, _, _, _, _, _, _, _, _, _, _, _ => by simp [all2] at hc
  | _ :: _, [], hc, _, _, _, _, _, _, _, _, _, _, _ => by simp [all2] at hc
end
end Go.Eng
