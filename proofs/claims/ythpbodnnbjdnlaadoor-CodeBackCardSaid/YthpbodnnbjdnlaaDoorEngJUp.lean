/- Functions of this seat, run on unknown values by the rules of the small machine (no condition beyond those stated). -/
import Derived.Test.YthpbodnnbjdnlaaDoorEngHUp
import Derived.Test.YthpbodnnbjdnlaaDoorEngXUp
namespace Go.Eng
open Go
set_option linter.unusedSectionVars false
set_option linter.unusedVariables false
set_option linter.unusedSimpArgs false
variable [Glob]
def FOk (P : Program) (f : Nat) : Prop := ∃ fn, P.funcs[f]? = some fn ∧ (fn.name == "runtime.NumGoroutine") = false ∧ fn.body.isNone = false
def FSim (P : Program) (F : FT) : Prop := ∀ (f : Nat) (args : List V) (H : Heap) (r : V) (H' : Heap),F f args H = some (r,H') → FOk P f ∧
  ∀ (wr : Nat → Prop) (W : World) (own : Own) (vals : Array Value),St wr W own H → args.length = vals.size → (∀ (j : Nat) (c : V),args[j]? = some c → VR wr W own c (vals.getD j undef)) →
    Calls P f vals W fun e w' => ∃ v wr' own',e = .returned v ∧ Ext wr W own wr' w' own' ∧ St wr' w' own' H' ∧ VR wr' w' own' r v
def Ends (p : Bool) (v : Value) (e : Ending) : Prop := e = (if p then .panicked [{ v := v,recovered := false }] else .returned v)
def PSim (P : Program) (F : FT) : Prop := ∀ (f : Nat) (args : List V) (H : Heap) (p : Bool) (r : V) (H' : Heap),F.x f args H = some (p,r,H') → FOk P f ∧
  ∀ (wr : Nat → Prop) (W : World) (own : Own) (vals : Array Value),St wr W own H → args.length = vals.size → (∀ (j : Nat) (c : V),args[j]? = some c → VR wr W own c (vals.getD j undef)) →
    Calls P f vals W fun e w' => ∃ v wr' own',Ends p v e ∧ Ext wr W own wr' w' own' ∧ St wr' w' own' H' ∧ VR wr' w' own' r v
section
variable {wr : Nat → Prop} {W : World} {own : Own} {P : Program}
theorem omap_to {α β : Type} {f : α → Option β} {g : α → β} : ∀ {l : List α},(∀ x ∈ l,f x = some (g x)) → omap f l = some (l.map g)
  | [],_ => rfl
  | a :: l,h => by
    have h0 := h a (by simp);have ih := omap_to (l := l) (f := f) (g := g) (fun x hx => h x (by simp [hx]))
    simp [omap,h0,ih]
theorem deep_free {H : Heap} : ∀ (n : Nat) {v : V},V.free n v = true → deep false H n v = some (nz n v)
  | 0,v,h => by simp [V.free] at h
  | n + 1,v,h => by
    cases v with
    | ag cs =>
      simp only [V.free,List.all_eq_true] at h;simp only [deep,omap_to (fun x hx => deep_free n (h x hx))]; rfl
    | tup cs =>
      simp only [V.free,List.all_eq_true] at h;simp only [deep,omap_to (fun x hx => deep_free n (h x hx))]; rfl
    | fn f cs =>
      simp only [V.free,List.all_eq_true] at h;simp only [deep,omap_to (fun x hx => deep_free n (h x hx))]; rfl
    | ifc t x =>
      simp only [V.free] at h;simp only [deep,deep_free n h]; rfl
    | un => simp [V.free] at h
    | sk => simp [V.free] at h
    | ptr b g off => simp [V.free] at h
    | bx x => simp [V.free] at h
    | sl b g off len z ag => simp [V.free] at h
    | bm f cs => simp [V.free] at h
    | mp b => simp [V.free] at h
    | mpb ks vs => simp [V.free] at h
    | _ => rfl
theorem VR.nz {wr : Nat → Prop} {W : World} {own : Own} : ∀ (n : Nat) {v : V} {v' : Value},VR wr W own v v' → VR wr W own (nz n v) v'
  | 0,_,_,h => h
  | n + 1,v,v',h => by
    have key : ∀ (cs : List V) (arr : Array Value),(∀ (j : Nat) (c : V),cs[j]? = some c → VR wr W own c (arr.getD j undef)) → ∀ (j : Nat) (c : V),(cs.map (Go.Eng.nz n))[j]? = some c → VR wr W own c (arr.getD j undef) := by
      intro cs arr hv j c hj;simp only [List.getElem?_map,Option.map_eq_some_iff] at hj;obtain ⟨d,hd,rfl⟩ := hj;exact VR.nz n (hv j d hd)
    cases h with
    | nils => exact .fzn
    | ag hl hv => exact .ag (by simpa using hl) (key _ _ hv)
    | tup hl hv => exact .tup (by simpa using hl) (key _ _ hv)
    | fn hl hv => exact .fn (by simpa using hl) (key _ _ hv)
    | ifc h => exact .ifc (VR.nz n h)
    | un => exact .un _
    | sk => exact .sk
    | bool => exact .bool _
    | int => exact .int _ _
    | str => exact .str _
    | nilp => exact .nilp
    | ptr h => exact .ptr h
    | fp cv h1 h2 h3 h4 => exact .fp cv h1 h2 h3 h4
    | bx cv h1 h2 h3 h4 => exact .bx cv h1 h2 h3 h4
    | sl h1 h2 h3 h4 => exact .sl h1 h2 h3 h4
    | fz z cv h1 h2 h3 h4 h5 => exact .fz z cv h1 h2 h3 h4 h5
    | fzn => exact .fzn
    | bm h1 h2 => exact .bm h1 h2
    | nilf => exact .nilf
    | nili => exact .nili
    | flt => exact .flt _
    | fnan b h => exact .fnan b h
    | mp h => exact .mp h
    | mpn => exact .mpn
    | fze a c => obtain ⟨x,y,z⟩ := a; exact .fz 0 (fun _ _ => undef) (Nat.zero_le _) (fun h => absurd rfl h) (fun i x h => by simp at h) (fun i x j c h => by simp at h) (fun i x j c h => by simp at h)
    | nanw b h => exact .nanw b h
theorem rows_get (z : Nat) : ∀ (n : Nat) (cs : List V),(rows z n cs).length = n ∧ ∀ i,i < n → (rows z n cs)[i]? = some ((cs.drop (i * z)).take z)
  | 0,cs => ⟨rfl,fun i h => by omega⟩
  | n + 1,cs => by
    obtain ⟨h1,h2⟩ := rows_get z n (cs.drop z);refine ⟨by simp [rows,h1],fun i hi => ?_⟩;cases i with
    | zero => simp [rows]
    | succ i =>
      simp only [rows,List.getElem?_cons_succ];rw [h2 i (by omega),List.drop_drop,Nat.succ_mul,Nat.add_comm]
theorem deep_sound {H : Heap} {strict : Bool} (s : Rd wr W own H) {wr2 : Nat → Prop} (hown : ∀ b g cb sh N,own b g = some (cb,sh,N) → ¬ wr2 cb)
    (hsub : strict = true ∨ ∀ b,wr2 b → wr b) : ∀ (n : Nat) {v u : V} {v' : Value},deep strict H n v = some u → VR wr W own v v' → VR wr2 W own0 u v'
  | 0,v,u,v',h,_ => by simp [deep] at h
  | n + 1,v,u,v',h,hv => by
    have hg : (∀ b,wr2 b → wr b) → Grow wr wr2 W W := fun hs => ⟨Nat.le_refl _,fun b _ h => hs b h,fun _ _ _ => rfl⟩
    have lst : ∀ (cs us : List V) (arr : Array Value),omap (deep strict H n) cs = some us → cs.length = arr.size → (∀ j c,cs[j]? = some c → VR wr W own c (arr.getD j undef)) →
        us.length = arr.size ∧ ∀ j c,us[j]? = some c → VR wr2 W own0 c (arr.getD j undef) := by
      intro cs us arr ho hl hvv;obtain ⟨o1,o2⟩ := omap_spec ho;refine ⟨by omega,fun j c hj => ?_⟩;have hlt : j < cs.length := by rw [o1]; exact (List.getElem?_eq_some_iff.mp hj).1
      obtain ⟨b,hb,hd⟩ := o2 j _ (List.getElem?_eq_getElem hlt);rw [hj] at hb; cases hb;exact deep_sound s hown hsub n hd (hvv j _ (List.getElem?_eq_getElem hlt))
    cases hv with
    | un => simp [deep] at h
    | sk => simp [deep] at h
    | bool b => simp [deep] at h; subst h; exact .bool b
    | int k m => simp [deep] at h; subst h; exact .int k m
    | str s => simp [deep] at h; subst h; exact .str s
    | nilp => simp [deep] at h; subst h; exact .nilp
    | ptr ho => simp [deep] at h
    | bx => simp [deep] at h
    | bm hl hvv => simp [deep] at h
    | mp hh => simp [deep] at h
    | mpn => simp [deep] at h; subst h; exact .mpn
    | nils => simp [deep] at h; subst h; exact .fzn
    | nilf => simp [deep] at h; subst h; exact .nilf
    | nili => simp [deep] at h; subst h; exact .nili
    | flt b => simp [deep] at h; subst h; exact .flt b
    | fnan b hb => simp [deep] at h; subst h; exact .fnan b hb
    | nanw b hb => simp [deep] at h; subst h; exact .nanw b hb
    | fze a c => simp [deep] at h; subst h; obtain ⟨x,y,z⟩ := a; exact .fz 0 (fun _ _ => undef) (Nat.zero_le _) (fun h => absurd rfl h) (fun i x h => by simp at h) (fun i x j c h => by simp at h) (fun i x j c h => by simp at h)
    | fp cv hw hlt hc hvv =>
      simp only [deep] at h
      split at h
      · cases h; exact .un _
      · rename_i hns; cases h
        exact VR.mono (hg (hsub.resolve_left hns)) (Own.le_refl _) (.fp cv hw hlt hc hvv)
    | fz z cv hl hw hz hc hvv =>
      simp only [deep] at h
      split at h
      · cases h; exact .un _
      · rename_i hns; cases h
        exact VR.mono (hg (hsub.resolve_left hns)) (Own.le_refl _) (.fz z cv hl hw hz hc hvv)
    | fzn =>
      simp only [deep] at h
      split at h
      · cases h; exact .un _
      · cases h; exact .fzn
    | ag hl hvv =>
      simp only [deep,Option.map_eq_some_iff] at h;obtain ⟨us,ho,rfl⟩ := h;obtain ⟨l1,l2⟩ := lst _ _ _ ho hl hvv;exact .ag l1 l2
    | tup hl hvv =>
      simp only [deep,Option.map_eq_some_iff] at h;obtain ⟨us,ho,rfl⟩ := h;obtain ⟨l1,l2⟩ := lst _ _ _ ho hl hvv;exact .tup l1 l2
    | fn hl hvv =>
      simp only [deep,Option.map_eq_some_iff] at h;obtain ⟨us,ho,rfl⟩ := h;obtain ⟨l1,l2⟩ := lst _ _ _ ho hl hvv;exact .fn l1 l2
    | ifc hx =>
      simp only [deep,Option.map_eq_some_iff] at h;obtain ⟨y,hy,rfl⟩ := h;exact .ifc (deep_sound s hown hsub n hy hx)
    | sl ho hl ha hN =>
      rename_i b g off len z ag cb sh N a cap
      simp only [deep,Option.bind_eq_some_iff] at h;obtain ⟨cs,hcs,h⟩ := h
      split at h
      case isFalse => cases h
      rename_i hcond
      obtain ⟨hfit,hz0,hzag⟩ := hcond;simp only [Option.map_eq_some_iff] at h;obtain ⟨xs,hxs,rfl⟩ := h;obtain ⟨cv,hcv⟩ := s.get hcs ho;obtain ⟨o1,o2⟩ := omap_spec hxs;obtain ⟨r1,r2⟩ := rows_get z len (cs.drop off);have hxl : xs.length = len := by rw [← o1,r1]
      have hbl : cb < W.heap.size ∨ len = 0 ∨ z = 0 := by
        rcases Nat.eq_zero_or_pos (len * z) with h0 | h0
        · right; exact Nat.mul_eq_zero.mp h0
        · left
          have := (hcv off cs[off] (List.getElem?_eq_getElem (by omega))).1;have := World.block_lt_of_cell? _ _ this;exact this
      have el : ∀ i x,xs[i]? = some x → x.cells.length = z ∧ ∀ j c,x.cells[j]? = some c → W.cell? ⟨cb,sh + off + i * z + j,none⟩ = some (cv (off + i * z + j)) ∧ VR wr2 W own0 c (cv (off + i * z + j)) := by
        intro i x hx;have hi : i < len := by rw [← hxl]; exact (List.getElem?_eq_some_iff.mp hx).1
        obtain ⟨y,hy,hf⟩ := o2 i _ (r2 i hi);rw [hx] at hy; cases hy;have hiz : i * z + z ≤ len * z := by rw [← Nat.succ_mul]; exact Nat.mul_le_mul_right _ hi
        have hrow : ∀ j,j < z → (((cs.drop off).drop (i * z)).take z)[j]? = cs[off + i * z + j]? := by
          intro j hj; simp [hj,Nat.add_assoc]
        have hrl : (((cs.drop off).drop (i * z)).take z).length = z := by simp; omega
        cases ag with
        | true =>
          simp only [if_true,Option.map_eq_some_iff] at hf;obtain ⟨us,hus,rfl⟩ := hf;obtain ⟨p1,p2⟩ := omap_spec hus;refine ⟨by rw [V.cells,← p1,hrl],fun j c hj => ?_⟩;have hj' : j < z := by rw [← hrl,p1]; exact (List.getElem?_eq_some_iff.mp hj).1
          obtain ⟨d,hd,hdd⟩ := p2 j cs[off + i * z + j] (by rw [hrow j hj']; exact List.getElem?_eq_getElem (by omega));have e : us[j]? = some c := hj;rw [e] at hd; cases hd;obtain ⟨q1,q2⟩ := hcv (off + i * z + j) cs[off + i * z + j] (List.getElem?_eq_getElem (by omega));refine ⟨?_,deep_sound s hown hsub n hdd q2⟩
          rwa [show sh + off + i * z + j = sh + (off + i * z + j) by omega]
        | false =>
          have hz1 : z = 1 := by rcases hzag with h | h; cases h; exact h
          subst hz1;simp only [Bool.false_eq_true,if_false] at hf
          split at hf
          · rename_i c0 hr0
            simp only [Option.bind_eq_some_iff] at hf;obtain ⟨u0,hu0,hf⟩ := hf
            split at hf
            · cases hf
            · rename_i hag; cases hf
              have hc0 : cs[off + i * 1 + 0]? = some c0 := by rw [← hrow 0 (by omega),hr0]; rfl
              have hcell : x.cells = [x] := by cases x <;> simp_all [V.isAg,V.cells]
              refine ⟨by rw [hcell]; rfl,fun j c hj => ?_⟩;rw [hcell] at hj;cases j with
              | zero =>
                simp at hj; subst hj
                obtain ⟨q1,q2⟩ := hcv _ _ hc0;refine ⟨?_,deep_sound s hown hsub n hu0 q2⟩
                rwa [show sh + off + i * 1 + 0 = sh + (off + i * 1 + 0) by omega]
              | succ j => simp at hj
          · cases hf
      obtain ⟨ab,ao,asp⟩ := a;have q : VR wr2 W own0 (.fz xs) (.slice (some ⟨ab,ao,asp⟩) xs.length cap) := by
        by_cases hemp : xs = []
        · subst hemp;exact .fz z (fun _ _ => undef) (by simp) (by simp) (by simp) (by simp) (by simp)
        · have hlen : 0 < len := by rw [← hxl]; exact List.length_pos_iff.mpr hemp
          have ea := ha.resolve_left (by omega);cases ea;refine .fz z (fun i j => cv (off + i * z + j)) (by omega) (fun _ => ⟨rfl,hown _ _ _ _ _ ho,?_⟩) (fun i x hx => (el i x hx).1) (fun i x j c hx hj => ((el i x hx).2 j c hj).1) (fun i x j c hx hj => ((el i x hx).2 j c hj).2);rcases hbl with h | h | h
          · exact h
          · omega
          · omega
      rwa [hxl] at q
theorem run_v {x : Sem Value} {v' : Value} {W' : World} (h : x.run P W = .ok v' W') : (do pure (Next.value (← x)) : Sem Next).run P W = .ok (.value v') W' := by
  rw [Sem.run_bind,h]; rfl
theorem call_run {c : Call} {ty : TypeId} {a : Act} {f' : Operand} (hc : c.callee = .value f') {g : Nat} {caps : Array Value} (hf : a.eval f' = .func (.func g) #[] caps) (hg : FOk P g) :
    (do let d ← resolve a.eval c ty; invoke d.target d.args : Sem Next).run P W = .ok (.enter g (c.args.map a.eval ++ caps)) W := by
  obtain ⟨fn,h1,h2,h3⟩ := hg;have : resolve a.eval c ty = pure { target := .fn (.func g) caps,args := #[] ++ c.args.map a.eval } := by
    simp [resolve,hc,hf,Deferred.ofValue]
  rw [this];simp only [pure_bind,Array.empty_append,invoke,callFunc,Sem.run_bind,run_program,Result.andThen_ok,h1];rw [if_neg (by simp [h2]),if_neg (by simp [h3])]
  rfl
theorem call_run_m {c : Call} {ty : TypeId} {a : Act} {f' : Operand} (hc : c.callee = .value f') {g : Nat} {first : Array Value} (hf : a.eval f' = .func (.func g) first #[]) (hg : FOk P g) :
    (do let d ← resolve a.eval c ty; invoke d.target d.args : Sem Next).run P W = .ok (.enter g (first ++ c.args.map a.eval)) W := by
  obtain ⟨fn,h1,h2,h3⟩ := hg;have : resolve a.eval c ty = pure { target := .fn (.func g) #[],args := first ++ c.args.map a.eval } := by
    simp [resolve,hc,hf,Deferred.ofValue]
  rw [this];simp only [pure_bind,invoke,callFunc,Sem.run_bind,run_program,Result.andThen_ok,h1];rw [if_neg (by simp [h2]),if_neg (by simp [h3])];simp only [Array.append_empty]
  rfl
theorem args_sim (hG : GOk wr W) {env : List V} {a : Act} (hv : ∀ t,VR wr W own (env.getD t .un) (a.tmps.getD t undef)) {os : Array Operand} {ds : List Opd} (h : all2 chkOpd os.toList ds = true) :
    (ds.map (·.ev env)).length = (os.map a.eval).size ∧ ∀ (j : Nat) (c : V),(ds.map (·.ev env))[j]? = some c → VR wr W own c ((os.map a.eval).getD j undef) := by
  obtain ⟨h1,h2⟩ := all2_get h;refine ⟨by simp at h1 ⊢; omega,fun j c hj => ?_⟩;simp only [List.getElem?_map,Option.map_eq_some_iff] at hj;obtain ⟨d,hd,rfl⟩ := hj;have hlt : j < os.size := by have := (List.getElem?_eq_some_iff.mp hd).1; simp at h1; omega
  have ho : os.toList[j]? = some os[j] := by simp [hlt]
  have e : (os.map a.eval)[j]? = some (a.eval os[j]) := by simp [hlt]
  rw [getD_of_some e];exact opd_sim hG hv (h2 j _ d ho hd)
theorem pcall_sim {F : FT} (hF : FSim P F) {H : Heap} (s : Rd wr W own H) {g : Nat} {args : List V} {v : V} (h : pcall F H (.fn g []) args = some v) {vals : Array Value} (hl : args.length = vals.size)
    (hargs : ∀ (j : Nat) (c : V),args[j]? = some c → VR wr W own c (vals.getD j undef)) :
    FOk P g ∧ Calls P g vals W fun e w' => ∃ v',e = .returned v' ∧ Gl W w' ∧ VR wr w' own v v' := by
  simp only [pcall,Option.bind_eq_some_iff] at h;obtain ⟨us,hus,⟨r,Hc⟩,hr,hd⟩ := h;obtain ⟨hok,hsim⟩ := hF g us [] r Hc hr;refine ⟨hok,?_⟩;obtain ⟨o1,o2⟩ := omap_spec hus
  by_cases hfree : args.all (V.free deepN) = true
  · have eus : us = args.map (nz deepN) := by
      have : omap (deep false H deepN) args = some (args.map (nz deepN)) := omap_to (fun x hx => deep_free deepN (List.all_eq_true.mp hfree x hx));rw [this] at hus; cases hus; rfl
    subst eus;refine (hsim wr W own0 vals (St.nil s.wr_lt s.glob) (by simpa using hl) (fun j c hj => ?_)).mono ?_
    · simp only [List.getElem?_map,Option.map_eq_some_iff] at hj;obtain ⟨d,hd,rfl⟩ := hj;exact (VR.of_free deepN (List.all_eq_true.mp hfree d (List.mem_of_getElem? hd)) (hargs j d hd)).nz deepN
    rintro e w' ⟨v',wr',own',he,hext,hst,hvr⟩;have hgl : Gl W w' := ⟨hext.size,fun b hb => hext.same b hb (by rintro ⟨x,y,sh,N,ho⟩; simp [own0] at ho),hext.io⟩;refine ⟨v',he,hgl,?_⟩;have hd' : deep false Hc deepN r = some v := by simpa [hfree] using hd
    exact VR.mono ⟨Nat.le_refl _,fun _ _ h => h,fun _ _ _ => rfl⟩ (fun b g x h => by simp [own0] at h) (deep_sound hst.toRd (wr2 := wr) (fun b g cb sh N ho hw => by
      rcases hext.news cb ⟨_,_,_,_,ho⟩ with ⟨x,y,sh',N',h⟩ | h
      · simp [own0] at h
      · have := s.wr_lt _ hw; omega) (.inr hext.wr_le) deepN hd' hvr)
  · have hfree' : args.all (V.free deepN) = false := by simpa using hfree
    have hus2 : ∀ (j : Nat) (c : V),us[j]? = some c → VR (fun _ => False) W own0 c (vals.getD j undef) := by
      intro j c hj;have hlt : j < args.length := by rw [o1]; exact (List.getElem?_eq_some_iff.mp hj).1
      obtain ⟨b,hb,hdd⟩ := o2 j _ (List.getElem?_eq_getElem hlt);rw [hj] at hb; cases hb;exact deep_sound s (wr2 := fun _ => False) (fun _ _ _ _ _ _ h => h) (.inr (fun _ h => h.elim)) deepN hdd (hargs j _ (List.getElem?_eq_getElem hlt))
    refine (hsim (fun _ => False) W own0 vals (St.nil (fun _ h => h.elim) (s.glob.mono ⟨Nat.le_refl _,fun _ _ h => h.elim,fun _ _ _ => rfl⟩)) (by omega) hus2).mono ?_;rintro e w' ⟨v',wr',own',he,hext,hst,hvr⟩;have hgl : Gl W w' := ⟨hext.size,fun b hb => hext.same b hb (by rintro ⟨x,y,sh,N,ho⟩; simp [own0] at ho),hext.io⟩;refine ⟨v',he,hgl,?_⟩;have hd' : deep true Hc deepN r = some v := by simpa [hfree'] using hd
    exact VR.mono ⟨Nat.le_refl _,fun _ _ h => h,fun _ _ _ => rfl⟩ (fun b g x h => by simp [own0] at h) (deep_sound hst.toRd (wr2 := wr) (fun b g cb sh N ho hw => by
      rcases hext.news cb ⟨_,_,_,_,ho⟩ with ⟨x,y,sh',N',h⟩ | h
      · simp [own0] at h
      · have := s.wr_lt _ hw; omega) (.inl rfl) deepN hd' hvr)
theorem isE_sim {x : V} {x' : Value} (h : VR wr W own x x') (hx : isE x = true) : x' = .slice none 0 0 ∨ ∃ a c,x' = .slice (some a) 0 c := by
  cases h <;> simp [isE] at hx
  case nils => exact .inl rfl
  case fzn => exact .inl rfl
  case fze a c => exact .inr ⟨_,_,rfl⟩
  case fz z cv hl hw hz hc hv => rename_i xs _ _ _ _; cases xs with
    | nil => exact .inr ⟨_,_,rfl⟩
    | cons a l => simp [isE] at hx
  case sl ho hl ha hN => rename_i b g off len z ag cb sh N a cap; cases len with
    | zero => exact .inr ⟨_,_,rfl⟩
    | succ n => simp [isE] at hx
theorem clnV_spec {F : FT} {g : Nat} {v : V} (h : clnV F (.fn g []) = some v) : v = .fz [] ∧ ∀ y,(y = .nils ∨ y = .fze) → ∃ r,F g [y] [] = some r ∧ deep true r.2 deepN r.1 = some (.fz []) := by
  simp only [clnV,Option.bind_eq_some_iff] at h;obtain ⟨r,hr,q,hq,h⟩ := h
  split at h
  · rename_i h1 h2
    cases h;refine ⟨rfl,fun y hy => ?_⟩;rcases hy with rfl | rfl
    · exact ⟨r,hr,h1⟩
    · exact ⟨q,hq,h2⟩
  · cases h
theorem cln_sim {F : FT} (hF : FSim P F) {H : Heap} (s : Rd wr W own H) {g : Nat} {x v : V} (h : clnV F (.fn g []) = some v) {vals : Array Value} (hl : vals.size = 1) (hx : VR wr W own x (vals.getD 0 undef)) (hE : isE x = true) :
    FOk P g ∧ Calls P g vals W fun e w' => ∃ v',e = .returned v' ∧ Gl W w' ∧ VR wr w' own v v' := by
  obtain ⟨rfl,hs⟩ := clnV_spec h;have key : ∃ y,(y = V.nils ∨ y = V.fze) ∧ VR wr W own0 y (vals.getD 0 undef) := by
    rcases isE_sim hx hE with e | ⟨a,c,e⟩
    · rw [e]; exact ⟨.nils,.inl rfl,.nils⟩
    · rw [e]; exact ⟨.fze,.inr rfl,.fze a c⟩
  obtain ⟨y,hy,hvy⟩ := key;obtain ⟨⟨r,Hc⟩,hr,hd⟩ := hs y hy;obtain ⟨hok,hsim⟩ := hF g [y] [] r Hc hr;refine ⟨hok,?_⟩;refine (hsim wr W own0 vals (St.nil s.wr_lt s.glob) (by simp [hl]) (fun j c hj => ?_)).mono ?_
  · cases j with
    | zero => simp at hj; subst hj; exact hvy
    | succ j => simp at hj
  rintro e w' ⟨v',wr',own',he,hext,hst,hvr⟩;have hgl : Gl W w' := ⟨hext.size,fun b hb => hext.same b hb (by rintro ⟨x,y,sh,N,ho⟩; simp [own0] at ho),hext.io⟩;refine ⟨v',he,hgl,?_⟩;exact VR.mono ⟨Nat.le_refl _,fun _ _ h => h,fun _ _ _ => rfl⟩ (fun b g x h => by simp [own0] at h) (deep_sound hst.toRd (wr2 := wr) (fun b g cb sh N ho hw => by
    rcases hext.news cb ⟨_,_,_,_,ho⟩ with ⟨x,y,sh',N',h⟩ | h
    · simp [own0] at h
    · have := s.wr_lt _ hw; omega) (.inl rfl) deepN hd hvr)
theorem VR.bool_eq {b : Bool} {v : Value} (h : VR wr W own (.bool b) v) : v = .bool b := by cases h; rfl
theorem VR.fn_nil {g : Nat} {v : Value} (h : VR wr W own (.fn g []) v) : v = .func (.func g) #[] #[] := by
  cases h with
  | fn hl hv => rename_i arr; have : arr = #[] := by apply Array.eq_empty_of_size_eq_zero; rw [← hl]; rfl
                rw [this]
theorem fin_l {o : Oper} {a : Act} {v : V} {K : Act → World → Prop} {Q : Exit → Act → World → Prop} (hK : ∀ v' W',Gl W W' → VR wr W' own v v' → K (a.put o.dst v') W')
    (v' : Value) (W' : World) (h1 : (execOp a.eval o).run P W = .ok (.value v') W') (h2 : Gl W W') (h3 : VR wr W' own v v') : o.wp P a W K Q := by
  unfold Oper.wp; rw [h1]; exact hK v' W' h2 h3
theorem fin0_l {o : Oper} {a : Act} {v : V} {K : Act → World → Prop} {Q : Exit → Act → World → Prop} (hK : ∀ v' W',Gl W W' → VR wr W' own v v' → K (a.put o.dst v') W')
    (x : Sem Value) (hx : execOp a.eval o = (do pure (Next.value (← x)) : Sem Next)) (h : ∃ v',x.run P W = .ok v' W ∧ VR wr W own v v') : o.wp P a W K Q := by
  obtain ⟨v',h1,h2⟩ := h;exact fin_l hK v' W (by rw [hx]; exact run_v h1) (Gl.refl _) h2
theorem evq_sim {F : FT} (hF : FSim P F) {o : Oper} {k : Kind} (hk : chkK P o.op k = true) (hq : k.quiet = true) {H : Heap} (s : Rd wr W own H) {env : List V} {a : Act}
    (hv : ∀ t,VR wr W own (env.getD t .un) (a.tmps.getD t undef)) {v : V} (h : evq F env H k = some v) {K : Act → World → Prop} {Q : Exit → Act → World → Prop}
    (hK : ∀ v' W',Gl W W' → VR wr W' own v v' → K (a.put o.dst v') W') : o.wp P a W K Q := by
  obtain ⟨dst,op,ty,pos,after,guard⟩ := o
  dsimp only at hk
  unfold chkK at hk
  split at hk <;> (try (simp only [Kind.quiet,Bool.false_eq_true] at hq; done)) <;> (try simp only [Bool.and_eq_true,beq_iff_eq,decide_eq_true_eq] at hk)
  case h_1 x d =>
    simp only [evq,Option.some.injEq] at h; subst h;exact fin_l hK _ W rfl (Gl.refl _) (opd_sim s.glob hv hk)
  case h_2 x d =>
    simp only [evq,Option.some.injEq] at h; subst h;exact fin_l hK _ W rfl (Gl.refl _) (opd_sim s.glob hv hk)
  case h_3 =>
    have hc := opd_sim s.glob hv hk.1.1;simp only [evq] at h
    split at h
    · rename_i t ht
      rw [ht] at hc;simp only [Option.some.injEq] at h; subst h;refine fin_l hK _ W (by simp only [execOp]; rw [hc.bool_eq]; rfl) (Gl.refl _) ?_;cases t
      · exact opd_sim s.glob hv hk.2
      · exact opd_sim s.glob hv hk.1.2
    · cases h
  case h_4 =>
    obtain ⟨⟨⟨rfl,h1⟩,h2⟩,h3⟩ := hk;exact fin0_l hK _ rfl (bin_run h3 (opd_sim s.glob hv h1) (opd_sim s.glob hv h2) h)
  case h_5 =>
    obtain ⟨rfl,h1⟩ := hk;exact fin0_l hK _ rfl (un_run (opd_sim s.glob hv h1) h)
  case h_6 s0 d0 x k0 x' =>
    obtain ⟨⟨h1,h2⟩,h3⟩ := hk;have hx := opd_sim s.glob hv h1;simp only [evq] at h
    split at h
    · rename_i k1 n hn
      rw [hn] at hx;cases h;obtain ⟨ds,hds⟩ := Option.isSome_iff_exists.mp (show (P.underlying s0).isSome = true from h2)
      split at h3
      · rename_i k' hd
        rw [beq_iff_eq] at h3; subst h3;refine fin0_l hK _ rfl ⟨.int k0 (k0.wrap n),?_,.int _ _⟩;rw [hx.int_eq]
        simp [convert,run_underlying hds,run_underlying hd,Conv.intToInt]
      · cases h3
    · cases h
  case h_7 =>
    obtain ⟨⟨h1,h2⟩,h3⟩ := hk;refine fin0_l hK _ rfl (b2s_run h2 ?_ s (opd_sim s.glob hv h1) h)
    rename_i d0 _ _
    cases hd : P.underlying d0 with
    | none => simp [hd] at h3
    | some d => cases d <;> simp [hd] at h3; rfl
  case h_8 => exact fin0_l hK _ rfl (ld_run s hk.2 (opd_sim s.glob hv hk.1) h)
  case h_10 => exact fin0_l hK _ rfl (idxa_run hk.2 (opd_sim s.glob hv hk.1.1) (opd_sim s.glob hv hk.1.2) h)
  case h_11 t0 _ _ _ _ =>
    obtain ⟨⟨h1,h2⟩,h3⟩ := hk;refine fin0_l hK _ rfl (idxs_run ?_ (opd_sim s.glob hv h1) (opd_sim s.glob hv h2) h);cases hd : P.underlying t0 with
    | none => simp [hd] at h3
    | some d => cases d <;> simp [hd] at h3; rfl
  case h_12 =>
    obtain ⟨h1,h2⟩ := hk
    split at h2
    · rename_i fl hfl
      simp only [Bool.and_eq_true,beq_iff_eq] at h2;obtain ⟨rfl,h3⟩ := h2;exact fin0_l hK _ rfl (fld_run hfl h3 (opd_sim s.glob hv h1) h)
    · cases h2
  case h_13 =>
    obtain ⟨h1,h2⟩ := hk
    split at h2
    · rename_i fl hfl
      simp only [Bool.and_eq_true,beq_iff_eq,bne_iff_ne] at h2;obtain ⟨⟨rfl,h3⟩,h4⟩ := h2;exact fin0_l hK _ rfl (flda_run hfl h3 h4 (opd_sim s.glob hv h1) h)
    · cases h2
  case h_14 t0 x x' fr =>
    cases fr with
    | false => simp [Kind.quiet] at hq
    | true =>
      simp only [evq] at h
      split at h
      · rename_i hb
        simp only [Bool.and_eq_true] at hb;cases h;obtain ⟨r1,r2⟩ := boxfr_run (P := P) (t := t0) s.wr_lt (opd_sim s.glob hv hk) hb.1 hb.2;exact fin_l hK _ _ (run_v r1) (Gl.alloc _ _) r2
      · cases h
  case h_15 t0 x x' =>
    simp only [evq] at h
    split at h
    · rename_i hb
      cases h;obtain ⟨r1,r2⟩ := boxr_run (P := P) (t := t0) s.wr_lt (opd_sim s.glob hv hk) hb;exact fin_l hK _ _ (run_v r1) (Gl.alloc _ _) r2
    · cases h
  case h_17 =>
    obtain ⟨h1,h2⟩ := hk
    split at h2
    · rename_i fs hfs
      simp only [Bool.and_eq_true] at h2;exact fin0_l hK _ rfl (bld_run h1 hfs h2.1 h2.2 s.glob hv h)
    · rename_i hfs
      split at h2
      · rename_i hsz
        exact fin0_l hK _ rfl (bldA_run h1 hfs hsz h2 s.glob hv h)
      · cases h2
    · cases h2
  case h_18 t0 n parts z ag n' zero ps fr =>
    cases fr with
    | false => simp [Kind.quiet] at hq
    | true =>
      obtain ⟨⟨⟨⟨rfl,h1⟩,h2⟩,h3⟩,h4⟩ := hk;simp only [evq,Option.map_eq_some_iff] at h;obtain ⟨⟨r,Hr⟩,hr,rfl⟩ := h;obtain ⟨v',W',q1,q2,_⟩ := bsl_run (H := []) (P := P) h1 h2 h3 h4 hv (Rd.nil s.wr_lt s.glob) (fun h => by cases h) hr;obtain ⟨q3,q4,_⟩ := q2 rfl;exact fin_l hK _ _ (run_v q1) q3 q4
  case h_20 =>
    obtain ⟨⟨⟨⟨h1,h2⟩,h3⟩,h4⟩,h5⟩ := hk
    rename_i t0 x0 lo0 hi0 mx0 x' lo' hi' z'
    cases mx0 with
    | some _ => simp at h4
    | none =>
      have ho : ∀ (o : Option Operand) (d : Option Opd),chkOpt o d = true → OptR wr W own (d.map (·.ev env)) (o.map a.eval) := by
        intro o d hod;cases o <;> cases d <;> simp [chkOpt] at hod
        · trivial
        · exact opd_sim s.glob hv hod
      exact fin0_l hK _ rfl (slc_run h5 (opd_sim s.glob hv h1) (ho _ _ h2) (ho _ _ h3) h)
  case h_22 c s0 x0 =>
    obtain ⟨h1,h2⟩ := hk
    split at h1
    · rename_i hc
      split at h2
      · rename_i x' t' ha hat
        simp only [Bool.and_eq_true] at h2;have e1 : c.args = #[x'] := by rw [← Array.toList_inj,ha]
        have e2 : c.argTypes = #[t'] := by rw [← Array.toList_inj,hat]
        refine fin0_l hK (Builtin.len_ #[t'] ty #[a.eval x']) ?_ (len_run h2.2 (opd_sim s.glob hv h2.1) h);simp only [execOp,resolve,hc,e1,e2,pure_bind,invoke,builtin,List.map_toArray,List.map_cons,List.map_nil]
      · cases h2
    · cases h1
  case h_23 c hp f args =>
    cases hp with
    | true => simp [Kind.quiet] at hq
    | false =>
      obtain ⟨h1,h2⟩ := hk
      split at h1
      · rename_i f' hc
        have hf := opd_sim s.glob hv h1;simp only [evq] at h;have hgf : ∃ g,f.ev env = .fn g [] := by
          unfold pcall at h; split at h
          · rename_i g _; exact ⟨g,by assumption⟩
          · cases h
        obtain ⟨g,hgf⟩ := hgf;rw [hgf] at h hf;obtain ⟨a1,a2⟩ := args_sim s.glob hv h2;obtain ⟨hok,hcl⟩ := pcall_sim hF s h a1 a2;have hfe := hf.fn_nil;unfold Oper.wp;have hr := call_run (P := P) (c := c) (ty := ty) (W := W) hc hfe hok;rw [show (execOp a.eval ⟨dst,.call c,ty,pos,after,guard⟩) = (do let d ← resolve a.eval c ty; invoke d.target d.args) from rfl,hr,Oper.upon_enter];simp only [Array.append_empty];refine hcl.mono ?_;rintro e w' ⟨v',rfl,g1,g2⟩;exact hK v' w' g1 g2
      · cases h1
  case h_24 =>
    obtain ⟨h1,rfl⟩ := hk;exact fin0_l hK _ rfl (ext_run (opd_sim s.glob hv h1) h)
  case h_25 =>
    have hx := opd_sim s.glob hv hk;simp only [evq] at h;unfold nchkV at h
    split at h
    · rename_i hp
      rw [hp] at hx;cases h
      generalize ha : a.eval _ = w at hx
      cases hx with
      | ptr ho => exact fin_l hK _ W (by simp only [execOp,ha]; rfl) (Gl.refl _) (.ptr ho)
    · rename_i hp
      rw [hp] at hx;cases h
      generalize ha : a.eval _ = w at hx
      cases hx with
      | fp cv hw hlt hc hvv => exact fin_l hK _ W (by simp only [execOp,ha]; rfl) (Gl.refl _) (.fp cv hw hlt hc hvv)
    · rename_i hp
      rw [hp] at hx;cases h
      generalize ha : a.eval _ = w at hx
      cases hx with
      | fn hl hvv => exact fin_l hK _ W (by simp only [execOp,ha]; rfl) (Gl.refl _) (.fn hl hvv)
    · cases h
  case h_26 f0 first caps f' caps' =>
    obtain ⟨⟨rfl,h1⟩,h2⟩ := hk;simp only [evq,Option.some.injEq] at h; subst h;obtain ⟨a1,a2⟩ := args_sim s.glob hv h2;have hfe : first = #[] := by simpa using h1
    subst hfe;exact fin0_l hK _ rfl ⟨.func (.func f0) #[] (caps.map a.eval),by simp [Instr.makeFunc],.fn a1 a2⟩
  case h_27 t0 x0 t' x' =>
    obtain ⟨⟨rfl,h1⟩,h2⟩ := hk;simp only [evq,Option.some.injEq] at h; subst h;refine fin0_l hK _ rfl ⟨.iface t0 (a.eval x0),?_,.ifc (opd_sim s.glob hv h1)⟩
    split at h2
    · cases h2
    · rename_i d hne hd
      simp only [Instr.makeInterface,Sem.run_bind,run_underlying hd,Result.andThen_ok];cases d <;> first | rfl | exact absurd hd (hne _)
    · cases h2
  case h_28 op t0 x y _ op' x' y' =>
    obtain ⟨⟨rfl,h1⟩,h2⟩ := hk;simp only [evq] at h;obtain ⟨v',W',q1,q2,q3⟩ := fbin_run (P := P) (t := t0) (xo := x) (yo := y) (opd_sim s.glob hv h1) (opd_sim s.glob hv h2) h;exact fin_l hK v' W' (run_v q1) q2 q3
  case h_29 op t0 x x' =>
    obtain ⟨rfl,h1⟩ := hk;exact fin0_l hK _ rfl (fneg_run (opd_sim s.glob hv h1) h)
  case h_30 s0 d0 x x' =>
    obtain ⟨⟨h1,h2⟩,h3⟩ := hk;refine fin0_l hK _ rfl (i2f_run h2 ?_ (opd_sim s.glob hv h1) h);cases hd : P.underlying d0 with
    | none => simp [hd] at h3
    | some d => cases d <;> simp [hd] at h3; rename_i kk; cases kk <;> simp at h3; rfl
  case h_31 s0 d0 x k0 x' =>
    obtain ⟨⟨h1,h2⟩,h3⟩ := hk
    split at h3
    · rename_i k' hd
      rw [beq_iff_eq] at h3; subst h3;exact fin0_l hK _ rfl (f2i_run h2 hd (opd_sim s.glob hv h1) h)
    · cases h3
  case h_32 c e x0 =>
    obtain ⟨h1,h2⟩ := hk
    split at h1
    · rename_i f0 hc
      split at h2
      · rename_i x' ha
        have e1 : c.args = #[x'] := by rw [← Array.toList_inj,ha]
        simp only [evq] at h;obtain ⟨v',W',q1,q2,q3⟩ := xc_run (P := P) (opd_sim s.glob hv h2) h;refine fin_l hK v' W' ?_ q2 q3;exact xcall_run (P := P) (ty := ty) hc h1 e1 q1
      · cases h2
    · cases h1
  case h_33 op t0 x y _ ne sig x' y' =>
    obtain ⟨⟨⟨⟨⟨⟨rfl,h1⟩,h2⟩,h3⟩,h4⟩,h5⟩,h6⟩ := hk;simp only [Bool.not_eq_true'] at h3 h4;exact fin0_l hK _ rfl (eqs_run h5 h4 h6 (opd_sim s.glob hv h1) (opd_sim s.glob hv h2) h)
  case h_34 f0 first caps f' first' =>
    obtain ⟨⟨rfl,h1⟩,h2⟩ := hk;simp only [evq,Option.some.injEq] at h; subst h;obtain ⟨a1,a2⟩ := args_sim s.glob hv h2;have hfe : caps = #[] := by simpa using h1
    subst hfe;exact fin0_l hK _ rfl ⟨.func (.func f0) (first.map a.eval) #[],by simp [Instr.makeFunc],.bm a1 a2⟩
  case h_35 c x0 y0 =>
    obtain ⟨h1,h2⟩ := hk
    split at h1
    · rename_i f0 hc
      split at h2
      · rename_i x' y' ha
        have e1 : c.args = #[x',y'] := by rw [← Array.toList_inj,ha]
        simp only [Bool.and_eq_true] at h2;simp only [evq] at h;obtain ⟨v',q1,q3⟩ := ixb_run (P := P) (opd_sim s.glob hv h2.1) (opd_sim s.glob hv h2.2) h;refine fin_l hK v' W ?_ (Gl.refl _) q3;exact ixb_call (P := P) (ty := ty) hc h1 e1 q1
      · cases h2
    · cases h1
  case h_36 t0 _ _ _ _ _ _ _ =>
    obtain ⟨⟨h1,h2⟩,h3⟩ := hk
    split at h3
    · rename_i hu
      simp only [Bool.and_eq_true,beq_iff_eq] at h3;obtain ⟨⟨rfl,h4⟩,h5⟩ := h3;exact fin0_l hK _ rfl (idxg_run hu h4 h5 (opd_sim s.glob hv h1) (opd_sim s.glob hv h2) h)
    · cases h3
  case h_37 t0 _ _ _ _ _ _ _ =>
    obtain ⟨⟨h1,h2⟩,h3⟩ := hk
    split at h3
    · rename_i hu
      simp only [Bool.and_eq_true,beq_iff_eq] at h3;obtain ⟨⟨rfl,h4⟩,h5⟩ := h3;exact fin0_l hK _ rfl (idxp_run hu h4 h5 (opd_sim s.glob hv h1) (opd_sim s.glob hv h2) h)
    · cases h3
  case h_38 c mx x y =>
    obtain ⟨h1,h2⟩ := hk
    split at h1
    · rename_i b hc
      split at h2
      · rename_i x' y' ha
        have e1 : c.args = #[x',y'] := by rw [← Array.toList_inj,ha]
        simp only [Bool.and_eq_true] at h2;simp only [evq] at h;have hb := eq_of_beq h1;subst hb;obtain ⟨v',q1,q3⟩ := mnx_run (P := P) (W := W) (own := own) (ts := c.argTypes) (ty := ty) (opd_sim s.glob hv h2.1) (opd_sim s.glob hv h2.2) h;refine fin0_l hK (if mx then Builtin.max_ c.argTypes ty #[a.eval x',a.eval y'] else Builtin.min_ c.argTypes ty #[a.eval x',a.eval y']) ?_ ⟨v',q1,q3⟩;cases mx <;> simp only [execOp,resolve,hc,e1,pure_bind,invoke,builtin,List.map_toArray,List.map_cons,List.map_nil,if_true,Bool.false_eq_true,if_false]
      · cases h2
    · cases h1
  case h_39 c hp f x =>
    cases hp with
    | true => simp [Kind.quiet] at hq
    | false =>
      obtain ⟨h1,h2⟩ := hk
      split at h1
      · rename_i f' hc
        have hf := opd_sim s.glob hv h1;simp only [evq] at h;obtain ⟨a1,a2⟩ := args_sim s.glob hv h2;have hgf : ∃ g,f.ev env = .fn g [] := by
          split at h
          · unfold clnV at h; split at h
            · rename_i g _; exact ⟨g,by assumption⟩
            · cases h
          · unfold pcall at h; split at h
            · rename_i g _; exact ⟨g,by assumption⟩
            · cases h
        obtain ⟨g,hgf⟩ := hgf;rw [hgf] at h hf;have hcl : FOk P g ∧ Calls P g (c.args.map a.eval) W fun e w' => ∃ v',e = .returned v' ∧ Gl W w' ∧ VR wr w' own v v' := by
          split at h
          · rename_i hE
            exact cln_sim hF s h (by simp at a1; simp [← a1]) (a2 0 _ rfl) hE
          · exact pcall_sim hF s h a1 a2
        obtain ⟨hok,hcl⟩ := hcl;have hfe := hf.fn_nil;unfold Oper.wp;have hr := call_run (P := P) (c := c) (ty := ty) (W := W) hc hfe hok;rw [show (execOp a.eval ⟨dst,.call c,ty,pos,after,guard⟩) = (do let d ← resolve a.eval c ty; invoke d.target d.args) from rfl,hr,Oper.upon_enter];simp only [Array.append_empty];refine hcl.mono ?_;rintro e w' ⟨v',rfl,g1,g2⟩;exact hK v' w' g1 g2
      · cases h1
  case h_41 t0 m0 k0 ok0 m1 k1 zero ok1 =>
    obtain ⟨⟨⟨h1,h2⟩,rfl⟩,h3⟩ := hk
    split at h3
    · rename_i kt et hu
      split at h3
      · rename_i q z hk2 hz
        exact fin0_l hK _ rfl (mget_run s hu hk2 hz h3 (opd_sim s.glob hv h1) (opd_sim s.glob hv h2) h)
      · cases h3
    · cases h3
  case h_45 c m0 =>
    obtain ⟨h1,h2⟩ := hk
    split at h1
    · rename_i hc
      split at h2
      · rename_i x' t' ha hat
        simp only [Bool.and_eq_true] at h2;have e1 : c.args = #[x'] := by rw [← Array.toList_inj,ha]
        have e2 : c.argTypes = #[t'] := by rw [← Array.toList_inj,hat]
        refine fin0_l hK (Builtin.len_ #[t'] ty #[a.eval x']) ?_ (mlen_run s h2.2 (opd_sim s.glob hv h2.1) h);simp only [execOp,resolve,hc,e1,e2,pure_bind,invoke,builtin,List.map_toArray,List.map_cons,List.map_nil]
      · cases h2
    · cases h1
  case h_46 t0 x0 lo0 hi0 mx0 x1 lo1 hi1 n1 z1 ag1 =>
    obtain ⟨⟨⟨⟨h1,h2⟩,h3⟩,h4⟩,h5⟩ := hk;cases mx0 with
    | some _ => simp at h4
    | none =>
      have ho : ∀ (o : Option Operand) (d : Option Opd),chkOpt o d = true → OptR wr W own (d.map (·.ev env)) (o.map a.eval) := by
        intro o d hod;cases o <;> cases d <;> simp [chkOpt] at hod
        · trivial
        · exact opd_sim s.glob hv hod
      split at h5
      · rename_i l e hu
        simp only [Bool.and_eq_true,beq_iff_eq] at h5;obtain ⟨rfl,h5⟩ := h5;exact fin0_l hK _ rfl (slca_run s hu h5 (opd_sim s.glob hv h1) (ho _ _ h2) (ho _ _ h3) h)
      · cases h5
  case h_47 => simp [evq] at h
  case h_49 t0 x0 lo0 hi0 mx0 x1 lo1 hi1 mx1 z1 =>
    obtain ⟨⟨⟨⟨h1,h2⟩,h3⟩,h4⟩,h5⟩ := hk;have ho : ∀ (o : Option Operand) (d : Option Opd),chkOpt o d = true → OptR wr W own (d.map (·.ev env)) (o.map a.eval) := by
      intro o d hod;cases o <;> cases d <;> simp [chkOpt] at hod
      · trivial
      · exact opd_sim s.glob hv hod
    split at h5
    · rename_i e hu
      simp only [Bool.and_eq_true,beq_iff_eq,bne_iff_ne] at h5;exact fin0_l hK _ rfl (slcm_run hu h5.1 (opd_sim s.glob hv h1) (ho _ _ h2) (opd_sim s.glob hv h3) (opd_sim s.glob hv h4) h)
    · cases h5
  case h_50 => cases hk
end
end Go.Eng
namespace Go.Eng
open Go
set_option linter.unusedSectionVars false
set_option linter.unusedVariables false
set_option linter.unusedSimpArgs false
variable [Glob]
section
variable {wr : Nat → Prop} {W : World} {own : Own} {P : Program}
theorem evw_sim {F : FT} (hF : FSim P F) {o : Oper} {k : Kind} (hk : chkK P o.op k = true) (hq : k.quiet = false) {H H' : Heap} (s : St wr W own H) {env : List V} {a : Act}
    (hv : ∀ t,VR wr W own (env.getD t .un) (a.tmps.getD t undef)) {v : V} (h : evw F env H k = some (v,H')) {K : Act → World → Prop} {Q : Exit → Act → World → Prop}
    (hK : ∀ v' W' wr' own',Ext wr W own wr' W' own' → St wr' W' own' H' → VR wr' W' own' v v' → K (a.put o.dst v') W') : o.wp P a W K Q := by
  obtain ⟨dst,op,ty,pos,after,guard⟩ := o
  dsimp only at hk
  unfold chkK at hk
  split at hk <;> (try (simp only [Kind.quiet,Bool.true_eq_false] at hq; done)) <;> (try simp only [Bool.and_eq_true,beq_iff_eq,decide_eq_true_eq] at hk)
  case h_9 =>
    obtain ⟨⟨h1,h2⟩,h3⟩ := hk;simp only [evw,Option.map_eq_some_iff] at h;obtain ⟨H2,hst,he⟩ := h;cases he;obtain ⟨W',r1,wr',own',r2,r3⟩ := st_run h3 s (opd_sim s.glob hv h1) (opd_sim s.glob hv h2) hst;unfold Oper.wp;simp only [execOp,Sem.run_bind,r1,Result.andThen_ok,Sem.run_pure,Oper.upon_skip];exact hK _ W' wr' own' r2 r3 .sk
  case h_14 t0 x x' fr =>
    cases fr with
    | true => simp [Kind.quiet] at hq
    | false =>
      simp only [evw] at h
      split at h
      · rename_i hb
        cases h;obtain ⟨r1,wr',own',r2,r3,r4⟩ := box_run (P := P) (t := t0) s (opd_sim s.glob hv hk) hb;unfold Oper.wp;rw [show (execOp a.eval ⟨dst,.box t0 x,ty,pos,after,guard⟩) = (do pure (Next.value (← Instr.box t0 (a.eval x)))) from rfl,run_v r1,Oper.upon_value];exact hK _ _ wr' own' r2 r3 r4
      · cases h
  case h_16 t0 zc =>
    simp only [evw,Option.some.injEq,Prod.mk.injEq] at h;obtain ⟨rfl,rfl⟩ := h;obtain ⟨v',W',r1,wr',own',r2,r3,r4⟩ := alloc_run hk s;unfold Oper.wp;rw [show (execOp a.eval ⟨dst,.alloc t0,ty,pos,after,guard⟩) = (do pure (Next.value (← Instr.alloc t0 true (.tuple #[])))) from rfl,run_v r1,Oper.upon_value];exact hK _ _ wr' own' r2 r3 r4
  case h_18 t0 n parts z ag n' zero ps fr =>
    cases fr with
    | true => simp [Kind.quiet] at hq
    | false =>
      obtain ⟨⟨⟨⟨rfl,h1⟩,h2⟩,h3⟩,h4⟩ := hk;obtain ⟨v',W',r1,_,r2⟩ := bsl_run (P := P) h1 h2 h3 h4 hv s.toRd (fun _ => s) h;obtain ⟨wr',own',r3,r4,r5⟩ := r2 rfl;unfold Oper.wp;rw [show (execOp a.eval ⟨dst,.buildSlice t0 n parts,ty,pos,after,guard⟩) = (do pure (Next.value (← Instr.buildSlice t0 n (parts.map fun (i,x) => (i,a.eval x))))) from rfl,run_v r1,Oper.upon_value];exact hK _ _ wr' own' r3 r4 r5
  case h_19 t0 l c z ag zc by_ l' c' =>
    obtain ⟨⟨⟨h1,h2⟩,h3⟩,h4⟩ := hk;obtain ⟨v',W',r1,wr',own',r2,r3,r4⟩ := mks_run h3 h4 s (opd_sim s.glob hv h1) (opd_sim s.glob hv h2) h;unfold Oper.wp;rw [show (execOp a.eval ⟨dst,.makeSlice t0 l c,ty,pos,after,guard⟩) = (do pure (Next.value (← Instr.makeSlice t0 (a.eval l) (a.eval c)))) from rfl,run_v r1,Oper.upon_value];exact hK _ _ wr' own' r2 r3 r4
  case h_21 c sv x z ag by_ =>
    obtain ⟨h1,h2⟩ := hk
    split at h1
    · rename_i hc
      split at h2
      · rename_i s' x' st xt ha hat
        simp only [Bool.and_eq_true,Bool.not_eq_true'] at h2;obtain ⟨⟨⟨⟨⟨q1,q2⟩,q3⟩,q4⟩,q5⟩,q6⟩ := h2;have e1 : c.args = #[s',x'] := by rw [← Array.toList_inj,ha]
        have e2 : c.argTypes = #[st,xt] := by rw [← Array.toList_inj,hat]
        obtain ⟨v',W',r1,wr',own',r2,r3,r4⟩ := app_run (ty := ty) q3 q4 q5 q6 s (opd_sim s.glob hv q1) (opd_sim s.glob hv q2) h;have e : (execOp a.eval ⟨dst,.call c,ty,pos,after,guard⟩) = (do pure (Next.value (← Builtin.append_ #[st,xt] ty #[a.eval s',a.eval x']))) := by
          simp only [execOp,resolve,hc,e1,e2,pure_bind,invoke,builtin,List.map_toArray,List.map_cons,List.map_nil]
        unfold Oper.wp;rw [e,run_v r1,Oper.upon_value];exact hK _ _ wr' own' r2 r3 r4
      · cases h2
    · cases h1
  case h_40 t0 r0 =>
    simp only [evw,Option.some.injEq,Prod.mk.injEq] at h;obtain ⟨rfl,rfl⟩ := h;have hr : r0 = none := by simpa using hk
    subst hr;obtain ⟨v',W',r1,wr',own',r2,r3,r4⟩ := mkmp_run (P := P) s (t := t0);unfold Oper.wp;rw [show (execOp a.eval ⟨dst,.makeMap t0 none,ty,pos,after,guard⟩) = (do pure (Next.value (← Instr.makeMap t0 none))) from rfl,run_v r1,Oper.upon_value];exact hK _ _ wr' own' r2 r3 r4
  case h_42 t0 m0 k0 x0 m1 k1 x1 =>
    obtain ⟨⟨⟨h1,h2⟩,h3⟩,h4⟩ := hk;simp only [evw,Option.map_eq_some_iff] at h;obtain ⟨H2,hst,he⟩ := h;cases he;obtain ⟨W',r1,wr',own',r2,r3⟩ := mset_run s h4 (opd_sim s.glob hv h1) (opd_sim s.glob hv h2) (opd_sim s.glob hv h3) hst;unfold Oper.wp;simp only [execOp,Sem.run_bind,r1,Result.andThen_ok,Sem.run_pure,Oper.upon_skip];exact hK _ W' wr' own' r2 r3 .sk
  case h_43 t0 m0 k0 x0 m1 k1 x1 =>
    obtain ⟨⟨⟨h1,h2⟩,h3⟩,h4⟩ := hk;simp only [evw,Option.map_eq_some_iff] at h;obtain ⟨H2,hst,he⟩ := h;cases he;obtain ⟨W',r1,wr',own',r2,r3⟩ := mset_run s h4 (opd_sim s.glob hv h1) (opd_sim s.glob hv h2) (opd_sim s.glob hv h3) hst;unfold Oper.wp;simp only [execOp,Sem.run_bind,r1,Result.andThen_ok,Sem.run_pure,Oper.upon_skip];exact hK _ W' wr' own' r2 r3 .sk
  case h_44 c m0 k0 =>
    obtain ⟨h1,h2⟩ := hk
    split at h1
    · rename_i hc
      split at h2
      · rename_i m1 k1 t' _ ha hat
        simp only [Bool.and_eq_true] at h2;obtain ⟨⟨q1,q2⟩,q3⟩ := h2;have e1 : c.args = #[m1,k1] := by rw [← Array.toList_inj,ha]
        have e2 : c.argTypes[0]? = some t' := by rw [← Array.getElem?_toList,hat]; rfl
        simp only [evw,Option.map_eq_some_iff] at h;obtain ⟨H2,hst,he⟩ := h;cases he;obtain ⟨W',r1,wr',own',r2,r3⟩ := mdel_run (P := P) (ty := ty) s e2 q3 (opd_sim s.glob hv q1) (opd_sim s.glob hv q2) hst;have e : (execOp a.eval ⟨dst,.call c,ty,pos,after,guard⟩) = (do pure (Next.value (← Builtin.delete_ c.argTypes ty #[a.eval m1,a.eval k1]))) := by
          simp only [execOp,resolve,hc,e1,pure_bind,invoke,builtin,List.map_toArray,List.map_cons,List.map_nil]
        unfold Oper.wp;rw [e,run_v r1,Oper.upon_value];exact hK _ _ wr' own' r2 r3 (.tup rfl (fun j c hj => by simp at hj))
      · cases h2
    · cases h1
  case h_48 c x z zc =>
    obtain ⟨h1,h2⟩ := hk
    split at h1
    · rename_i hc
      split at h2
      · rename_i x' t' ha hat
        simp only [Bool.and_eq_true] at h2;obtain ⟨q1,q2⟩ := h2
        split at q2
        · rename_i e he
          simp only [Bool.and_eq_true,beq_iff_eq,decide_eq_true_eq] at q2;obtain ⟨⟨⟨w1,w2⟩,w3⟩,w4⟩ := q2;have e1 : c.args = #[x'] := by rw [← Array.toList_inj,ha]
          have e2 : c.argTypes = #[t'] := by rw [← Array.toList_inj,hat]
          obtain ⟨v',W',r1,wr',own',r2,r3,r4⟩ := clr_run (ty := ty) (sliceOf_eq he) w1 w2 w3 w4 s (opd_sim s.glob hv q1) h;have e : (execOp a.eval ⟨dst,.call c,ty,pos,after,guard⟩) = (do pure (Next.value (← Builtin.clear_ #[t'] ty #[a.eval x']))) := by
            simp only [execOp,resolve,hc,e1,e2,pure_bind,invoke,builtin,List.map_toArray,List.map_cons,List.map_nil]
          unfold Oper.wp;rw [e,run_v r1,Oper.upon_value];exact hK _ _ wr' own' r2 r3 r4
        · cases q2
      · cases h2
    · cases h1
  case h_23 c hp f args =>
    cases hp with
    | false => simp [Kind.quiet] at hq
    | true =>
      obtain ⟨h1,h2⟩ := hk
      split at h1
      · rename_i f' hc
        have hf := opd_sim s.glob hv h1;simp only [evw] at h;unfold hcall at h
        split at h
        · rename_i g caps hgf
          rw [hgf] at hf;obtain ⟨a1,a2⟩ := args_sim s.glob hv h2
          generalize hfe : a.eval f' = w at hf
          cases hf with
          | fn hl hcv =>
            rename_i arr
            obtain ⟨hok,hsim⟩ := hF g _ H v H' h;have hcl := hsim wr W own (c.args.map a.eval ++ arr) s (by rw [List.length_append,a1,hl,Array.size_append]) (fun j d hj => by
              rcases Nat.lt_or_ge j (args.map (·.ev env)).length with hlt | hge
              · rw [List.getElem?_append_left hlt] at hj;have := a2 j d hj;have hlt' : j < (c.args.map a.eval).size := by rw [← a1]; exact hlt
                rw [getD_of_some (Array.getElem?_eq_getElem hlt')] at this;rw [getD_of_some (x := (c.args.map a.eval)[j]) (by rw [Array.getElem?_append_left hlt']; exact Array.getElem?_eq_getElem hlt')]; exact this
              · rw [List.getElem?_append_right hge] at hj;have := hcv _ d hj;have hlt' : j - (args.map (·.ev env)).length < arr.size := by rw [← hl]; exact (List.getElem?_eq_some_iff.mp hj).1
                rw [getD_of_some (Array.getElem?_eq_getElem hlt')] at this;rw [getD_of_some (x := arr[j - (args.map (·.ev env)).length]) (by
                  rw [Array.getElem?_append_right (by rw [← a1]; exact hge)];rw [← a1]; exact Array.getElem?_eq_getElem hlt')]; exact this)
            unfold Oper.wp;have hr := call_run (P := P) (c := c) (ty := ty) (W := W) hc hfe hok;rw [show (execOp a.eval ⟨dst,.call c,ty,pos,after,guard⟩) = (do let d ← resolve a.eval c ty; invoke d.target d.args) from rfl,hr,Oper.upon_enter];refine hcl.mono ?_;rintro e w' ⟨v',wr',own',rfl,g1,g2,g3⟩;exact hK v' w' wr' own' g1 g2 g3
        · rename_i g first hgf
          rw [hgf] at hf;obtain ⟨a1,a2⟩ := args_sim s.glob hv h2
          generalize hfe : a.eval f' = w at hf
          cases hf with
          | bm hl hcv =>
            rename_i arr
            obtain ⟨hok,hsim⟩ := hF g _ H v H' h;have hcl := hsim wr W own (arr ++ c.args.map a.eval) s (by rw [List.length_append,a1,hl,Array.size_append]) (fun j d hj => by
              rcases Nat.lt_or_ge j first.length with hlt | hge
              · rw [List.getElem?_append_left hlt] at hj;have := hcv j d hj;have hlt' : j < arr.size := by rw [← hl]; exact hlt
                rw [getD_of_some (Array.getElem?_eq_getElem hlt')] at this;rw [getD_of_some (x := arr[j]) (by rw [Array.getElem?_append_left hlt']; exact Array.getElem?_eq_getElem hlt')]; exact this
              · rw [List.getElem?_append_right hge] at hj;have := a2 _ d hj;have hlt' : j - first.length < (c.args.map a.eval).size := by rw [← a1]; exact (List.getElem?_eq_some_iff.mp hj).1
                rw [getD_of_some (Array.getElem?_eq_getElem hlt')] at this;rw [getD_of_some (x := (c.args.map a.eval)[j - first.length]) (by
                  rw [Array.getElem?_append_right (by rw [← hl]; exact hge)];rw [← hl]; exact Array.getElem?_eq_getElem hlt')]; exact this)
            unfold Oper.wp;have hr := call_run_m (P := P) (c := c) (ty := ty) (W := W) hc hfe hok;rw [show (execOp a.eval ⟨dst,.call c,ty,pos,after,guard⟩) = (do let d ← resolve a.eval c ty; invoke d.target d.args) from rfl,hr,Oper.upon_enter];refine hcl.mono ?_;rintro e w' ⟨v',wr',own',rfl,g1,g2,g3⟩;exact hK v' w' wr' own' g1 g2 g3
        · cases h
      · cases h1
  case h_39 c hp f x =>
    cases hp with
    | false => simp [Kind.quiet] at hq
    | true =>
      obtain ⟨h1,h2⟩ := hk
      split at h1
      · rename_i f' hc
        have hf := opd_sim s.glob hv h1;obtain ⟨a1,a2⟩ := args_sim s.glob hv h2;simp only [evw] at h
        split at h
        · rename_i hE
          simp only [Option.map_eq_some_iff,Prod.mk.injEq] at h;obtain ⟨w,h,rfl,rfl⟩ := h;have hgf : ∃ g,f.ev env = .fn g [] := by
            unfold clnV at h; split at h
            · rename_i g _; exact ⟨g,by assumption⟩
            · cases h
          obtain ⟨g,hgf⟩ := hgf;rw [hgf] at h hf;obtain ⟨hok,hcl⟩ := cln_sim hF s.toRd h (vals := c.args.map a.eval) (by simp at a1; simp [← a1]) (a2 0 _ rfl) hE;have hfe := hf.fn_nil;unfold Oper.wp;have hr := call_run (P := P) (c := c) (ty := ty) (W := W) hc hfe hok;rw [show (execOp a.eval ⟨dst,.call c,ty,pos,after,guard⟩) = (do let d ← resolve a.eval c ty; invoke d.target d.args) from rfl,hr,Oper.upon_enter];simp only [Array.append_empty];refine hcl.mono ?_;rintro e w' ⟨v',rfl,g1,g2⟩;exact hK v' w' wr own (Ext.of_gl g1) (s.gl g1) g2
        · unfold cln1 at h
          split at h
          · rename_i g hgf
            rw [hgf] at hf
            split at h
            case isFalse => cases h
            rename_i hfree
            simp only [Option.bind_eq_some_iff] at h;obtain ⟨⟨r,Hc⟩,hr,h⟩ := h
            split at h
            case h_2 => cases h
            rename_i b gn off len z ag hre
            simp only at hre;subst hre;simp only [Option.bind_eq_some_iff] at h;obtain ⟨cs,hcs,h⟩ := h
            split at h
            case isFalse => cases h
            rename_i hcf
            cases h;obtain ⟨hok,hsim⟩ := hF g _ [] _ Hc hr;have hcl := hsim wr W own0 (c.args.map a.eval) (St.nil s.wr_lt s.glob) a1 (fun j d hj => by
              have hd : d = x.ev env := by
                cases j with
                | zero => simpa using hj.symm
                | succ j => simp at hj
              exact VR.of_free deepN (by rw [hd]; exact hfree) (a2 j d hj))
            have hfe := hf.fn_nil;unfold Oper.wp;have hrr := call_run (P := P) (c := c) (ty := ty) (W := W) hc hfe hok;rw [show (execOp a.eval ⟨dst,.call c,ty,pos,after,guard⟩) = (do let d ← resolve a.eval c ty; invoke d.target d.args) from rfl,hrr,Oper.upon_enter];simp only [Array.append_empty];refine hcl.mono ?_;rintro e w' ⟨v',wr1,own1,rfl,g1,g2,g3⟩;have hgl : Gl W w' := ⟨g1.size,fun b hb => g1.same b hb (by rintro ⟨x,y,sh,N,ho⟩; simp [own0] at ho),g1.io⟩;cases g3 with
            | sl ho hl ha hN =>
              rename_i cb sh N a0 cap
              obtain ⟨cb2,sh2,N2,ho2,hN2,ccs,tyc,lo,hi,hheap,hsz,hfr,hc2⟩ := g2.toRd.cells (rdB_some hcs) ho;rw [ho] at ho2; cases ho2;have hcbn : W.heap.size ≤ cb := by
                rcases g1.news cb ⟨_,_,_,_,ho⟩ with ⟨p,q,s1,s2,h⟩ | h
                · simp [own0] at h
                · exact h
              obtain ⟨wr',own',x1,x2,x3⟩ := s.change0 (b := H.length) (g' := 0) (cs' := cs) (cb' := cb) (sh' := sh) (N' := ccs.size) (H' := H ++ [(0,cs)]) (W' := w') (ccs := ccs) (ty := tyc) (lo := lo) (hi := hi)
                (fun x hx => by
                  rcases Nat.lt_or_ge x H.length with h | h
                  · rw [List.getElem?_append_left h]
                  · rw [List.getElem?_eq_none h,List.getElem?_eq_none (by simp; omega)]) (by simp) (by simp) hgl.io hgl.size (fun x hx _ => hgl.same x hx) (.inl hcbn) (fun g x h => by have := (s.fut _ _ _ h).1; omega)
                hheap rfl (fun i hi' => hfr i (by omega)) (by omega) (fun j d hj => by
                  obtain ⟨cv,q1,q2⟩ := hc2 j d hj;refine ⟨cv,q1,VR.mono ⟨Nat.le_refl _,fun b hb hw => ?_,fun _ _ _ => rfl⟩ (fun b g x h => by simp [own0] at h) (VR.of_free deepN (List.all_eq_true.mp hcf d (List.mem_of_getElem? hj)) q2)⟩;rcases hw with hw | rfl
                  · exact g1.wr_le b hw
                  · exact g2.own_wr _ _ _ _ _ ho)
              refine hK _ w' wr' own' x1 x2 (.sl x3 hl ha ?_);rw [hsz]; exact hN
          · cases h
      · cases h1
  case h_50 => cases hk
  all_goals (first | (simp [Kind.quiet] at hq; done) | (simp only [evw] at h; cases h; done))
theorem put_sim {env : List V} {a : Act} (hv : ∀ t,VR wr W own (env.getD t .un) (a.tmps.getD t undef)) (hsz : env.length ≤ a.tmps.size) {v : V} {v' : Value} (h : VR wr W own v v') (d : Option Nat) :
    (∀ t,VR wr W own ((put env d v).getD t .un) ((a.put d v').tmps.getD t undef)) ∧ (put env d v).length ≤ (a.put d v').tmps.size ∧ (a.put d v').defers = a.defers := by
  cases d with
  | none => exact ⟨hv,hsz,rfl⟩
  | some d =>
    refine ⟨fun t => ?_,by simp [put,Act.put,hsz],rfl⟩;simp only [put,Act.put]
    by_cases htd : t = d
    · subst htd
      by_cases hlt : t < env.length
      · have h1 : (env.set t v).getD t .un = v := by simp [List.getD,hlt]
        have h2 : (a.tmps.setIfInBounds t v').getD t undef = v' := by
          apply getD_of_some; rw [Array.getElem?_setIfInBounds_self_of_lt (by omega)]
        rw [h1,h2]; exact h
      · have h1 : (env.set t v).getD t .un = .un := by simp [List.getD,hlt]
        rw [h1]; exact .un _
    · have h1 : (env.set d v).getD t .un = env.getD t .un := by simp [List.getD,List.getElem?_set_ne (Ne.symm htd)]
      have h2 : (a.tmps.setIfInBounds d v').getD t undef = a.tmps.getD t undef := by
        simp [Array.getD_eq_getD_getElem?,Array.getElem?_setIfInBounds_ne (Ne.symm htd)]
      rw [h1,h2]; exact hv t
theorem Sim.mono {wr' : Nat → Prop} {W' : World} {own' : Own} {env : List V} {a : Act} {H : Heap} (s : St wr W own H) (e : Ext wr W own wr' W' own') (hv : ∀ t,VR wr W own (env.getD t .un) (a.tmps.getD t undef)) :
    ∀ t,VR wr' W' own' (env.getD t .un) (a.tmps.getD t undef) := fun t => (hv t).mono (e.grow s) e.owns
theorem exK_sim {F : FT} (hF : FSim P F) {o : Oper} {i : IOp} (hd : o.dst = i.dst) (hk : chkK P o.op i.k = true) {H H' : Heap} {env env' : List V} {a : Act} (s : Sim wr W own H env a.tmps)
    (h : exK F i env H = some (env',H')) {K : Act → World → Prop} {Q : Exit → Act → World → Prop}
    (hK : ∀ a' W' wr' own',Ext wr W own wr' W' own' → Sim wr' W' own' H' env' a'.tmps → a'.defers = a.defers → K a' W') : o.wp P a W K Q := by
  unfold exK at h
  split at h
  · rename_i hq
    simp only [Option.map_eq_some_iff,Prod.mk.injEq] at h;obtain ⟨v,hev,rfl,rfl⟩ := h;have hrd : Rd wr W own (if i.lo then [] else H) := by split; exact Rd.nil s.st.wr_lt s.st.glob; exact s.st.toRd
    refine evq_sim hF hk hq hrd s.vals hev (fun v' W' hg hvr => ?_);rw [hd];obtain ⟨p1,p2,p3⟩ := put_sim (wr := wr) (W := W') (own := own) (fun t => (s.vals t).gl hg) s.sz hvr i.dst;exact hK _ W' wr own (Ext.of_gl hg) ⟨s.st.gl hg,p1,p2⟩ p3
  · rename_i hq
    simp only [Option.map_eq_some_iff,Prod.mk.injEq] at h;obtain ⟨⟨v,H2⟩,hev,rfl,rfl⟩ := h;refine evw_sim hF hk (by simpa using hq) s.st s.vals hev (fun v' W' wr' own' he hst hvr => ?_);rw [hd];obtain ⟨p1,p2,p3⟩ := put_sim (Sim.mono s.st he s.vals) s.sz hvr i.dst;exact hK _ W' wr' own' he ⟨hst,p1,p2⟩ p3
theorem yielded_of {ops : Array Oper} {j t : Nat} (hj : (ops[j]?).bind (·.dst) = some t) {tmps : Array Value} :
    (∀ b,tmps.getD t undef = .bool b → yielded ops tmps j = some b) ∧ (tmps.getD t undef = undef → yielded ops tmps j = none) := by
  have h : yielded ops tmps j = match tmps[t]? with | some (.bool b) => some b | _ => none := by
    unfold yielded; rw [hj]; rfl
  rw [h];cases ht : tmps[t]? with
  | none => exact ⟨fun b hb => by simp [Array.getD_eq_getD_getElem?,ht,undef] at hb,fun _ => rfl⟩
  | some v =>
    have e : tmps.getD t undef = v := getD_of_some ht;rw [e];exact ⟨fun b hb => by rw [hb],fun hb => by rw [hb]; rfl⟩
theorem exOp_sim {F : FT} (hF : FSim P F) {ops : Array Oper} {o : Oper} {i : IOp} (hc : chkOp P ops o i = true) {H H' : Heap} {env env' : List V} {a : Act} (s : Sim wr W own H env a.tmps)
    (h : exOp F i env H = some (env',H')) {K : Act → World → Prop} {Q : Exit → Act → World → Prop}
    (hK : ∀ a' W' wr' own',Ext wr W own wr' W' own' → Sim wr' W' own' H' env' a'.tmps → a'.defers = a.defers → K a' W') :
    if Region.wanted o (yielded ops a.tmps) then o.wp P a W K Q ∨ (o.asks P a W ∧ LetsOut Q) else K (a.put o.dst undef) W := by
  simp only [chkOp,Bool.and_eq_true,beq_iff_eq] at hc;obtain ⟨⟨hd,hk⟩,hg⟩ := hc;have skip : H' = H → env' = put env i.dst .sk → K (a.put o.dst undef) W := by
    rintro rfl rfl;rw [hd];obtain ⟨p1,p2,p3⟩ := put_sim s.vals s.sz (.sk (wr := wr) (W := W) (own := own)) i.dst;exact hK _ W wr own (Ext.refl _ _ _) ⟨s.st,p1,p2⟩ p3
  unfold exOp at h;cases hog : o.guard with
  | none =>
    rw [hog] at hg;cases hig : i.guard with
    | some p => rw [hig] at hg; cases hg
    | none =>
      rw [hig] at h;rw [if_pos (by simp [Region.wanted,hog])];exact .inl (exK_sim hF hd hk s h hK)
  | some p =>
    obtain ⟨j,w⟩ := p;rw [hog] at hg;cases hig : i.guard with
    | none => rw [hig] at hg; cases hg
    | some p =>
      obtain ⟨t,w'⟩ := p;rw [hig] at hg h;simp only [Bool.and_eq_true,beq_iff_eq] at hg;obtain ⟨rfl,hj⟩ := hg;obtain ⟨y1,y2⟩ := yielded_of hj (tmps := a.tmps);have hvt := s.vals t
      dsimp only at h
      split at h
      · rename_i b hb
        rw [hb] at hvt;have hy := y1 b hvt.bool_eq
        split at h
        · rename_i hbw
          subst hbw;rw [if_pos (by simp [Region.wanted,hog,hy])];exact .inl (exK_sim hF hd hk s h hK)
        · rename_i hbw
          cases h;rw [if_neg (by simp [Region.wanted,hog,hy,hbw])];exact skip rfl rfl
      · rename_i hb
        rw [hb] at hvt;have hy := y2 (by generalize a.tmps.getD t undef = q at hvt; cases hvt; rfl);cases h;rw [if_neg (by simp [Region.wanted,hog,hy])];exact skip rfl rfl
      · cases h
theorem exOps_sim {F : FT} (hF : FSim P F) {ops : Array Oper} {Q : Exit → Act → World → Prop} : ∀ (l : List Oper) (is : List IOp),all2 (chkOp P ops) l is = true →
    ∀ {wr : Nat → Prop} {W : World} {own : Own} {H H' : Heap} {env env' : List V} {a : Act},Sim wr W own H env a.tmps → exOps F is env H = some (env',H') →
    (∀ a' W' wr' own',Ext wr W own wr' W' own' → Sim wr' W' own' H' env' a'.tmps → a'.defers = a.defers → Q .normal a' W') → wpList P ops Q l a W
  | [],[],_,wr,W,own,H,H',env,env',a,s,h,hQ => by
    simp only [exOps,Option.some.injEq,Prod.mk.injEq] at h;obtain ⟨rfl,rfl⟩ := h;exact hQ a W wr own (Ext.refl _ _ _) s rfl
  | o :: l,i :: is,hc,wr,W,own,H,H',env,env',a,s,h,hQ => by
    simp only [all2,Bool.and_eq_true] at hc;simp only [exOps] at h
    split at h
    · rename_i env1 H1 h1
      unfold wpList;refine exOp_sim hF hc.1 s h1 (fun a1 W1 wr1 own1 e1 s1 d1 => ?_);exact exOps_sim hF l is hc.2 s1 h (fun a2 W2 wr2 own2 e2 s2 d2 => hQ a2 W2 wr2 own2 (e1.trans e2) s2 (d2.trans d1))
    · cases h
  | [],_ :: _,hc,_,_,_,_,_,_,_,_,_,_,_ => by simp [all2] at hc
  | _ :: _,[],hc,_,_,_,_,_,_,_,_,_,_,_ => by simp [all2] at hc
end
end Go.Eng
