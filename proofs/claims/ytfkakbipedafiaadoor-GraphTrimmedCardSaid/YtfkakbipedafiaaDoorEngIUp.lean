/- Functions of this seat, run on unknown values by the rules of the small machine (no condition beyond those stated). -/
import Derived.Test.YtfkakbipedafiaaDoorEngFUp
import Derived.Test.YtfkakbipedafiaaDoorEngCUp
import Derived.Laws.StructEq
import Derived.ChangeKeysEq
namespace Go.Eng
open Go
set_option linter.unusedSectionVars false
set_option linter.unusedVariables false
set_option linter.unusedSimpArgs false
variable [Glob]
section
variable {wr : Nat → Prop} {W : World} {own : Own} {P : Program}
theorem run_mapM_list {α β : Type} (f : α → Sem β) (g : α → β) : ∀ (l : List α),(∀ a ∈ l,(f a).run P W = .ok (g a) W) → (l.mapM f).run P W = .ok (l.map g) W
  | [],_ => by simp
  | a :: l,h => by
    have h0 := h a (by simp);have ih := run_mapM_list f g l (fun b hb => h b (by simp [hb]))
    simp [List.mapM_cons,h0,ih]
theorem run_mapM_arr {α β : Type} (f : α → Sem β) (g : α → β) (a : Array α) (h : ∀ x ∈ a.toList,(f x).run P W = .ok (g x) W) : (a.mapM f).run P W = .ok (a.map g) W := by
  have := run_mapM_list f g a.toList h;rw [Array.mapM_eq_mapM_toList]
  simp [this]
  exact Array.ext' (by simp)
theorem chkParts_spec {fs : Array Field} {env : List V} {a : Act} (hG : GOk wr W) (hv : ∀ t,VR wr W own (env.getD t .un) (a.tmps.getD t undef)) :
    ∀ (ps : List (Nat × Operand)) (qs : List (Nat × Nat × Opd)),chkParts P fs ps qs = true → ps.length = qs.length ∧
      ∀ (k i : Nat) (o : Operand) (off size : Nat) (d : Opd),ps[k]? = some (i,o) → qs[k]? = some (off,size,d) →
        (∃ f,fs[i]? = some f ∧ f.offset = off ∧ szOf P f.type = some size) ∧ VR wr W own (d.ev env) (a.eval o)
  | [],[],_ => ⟨rfl,fun k i o off size d h => by simp at h⟩
  | (i,x) :: r,(off,size,d) :: s,h => by
    simp only [chkParts,Bool.and_eq_true] at h;obtain ⟨⟨h1,h2⟩,h3⟩ := h;obtain ⟨g1,g2⟩ := chkParts_spec hG hv r s h3;refine ⟨by simp [g1],fun k i' o' off' size' d' hk hk' => ?_⟩;cases k with
    | zero =>
      simp at hk hk'
      obtain ⟨rfl,rfl⟩ := hk;obtain ⟨rfl,rfl,rfl⟩ := hk';refine ⟨?_,opd_sim hG hv h2⟩
      split at h1
      · rename_i f hf
        simp only [Bool.and_eq_true,beq_iff_eq] at h1;exact ⟨f,hf,h1.1,h1.2⟩
      · cases h1
    | succ k => exact g2 k i' o' off' size' d' (by simpa using hk) (by simpa using hk')
  | [],_ :: _,h => by simp [chkParts] at h
  | _ :: _,[],h => by simp [chkParts] at h
theorem bld_run {t : TypeId} {fs : Array Field} {zero : List V} {parts : Array (Nat × Operand)} {ps : List (Nat × Nat × Opd)} (hz : chkZero P t zero = true) (hu : P.underlying t = some (.struct fs))
    (hfs : fs.all (fun f => (szOf P f.type).isSome) = true) (hp : chkParts P fs parts.toList ps = true) (hG : GOk wr W) {env : List V} {a : Act} (hv : ∀ t,VR wr W own (env.getD t .un) (a.tmps.getD t undef)) {v : V}
    (h : bldV zero (ps.map fun p => (p.1,p.2.1,p.2.2.ev env)) = some v) : ∃ v',(Instr.build t (parts.map fun (i,x) => (i,a.eval x))).run P W = .ok v' W ∧ VR wr W own v v' := by
  obtain ⟨zv,hzv,hzs,hzr⟩ := chkZero_spec (wr := wr) (W := W) (own := own) hz;obtain ⟨c1,c2⟩ := chkParts_spec (P := P) hG hv _ _ hp;have hm : (fs.mapM fun f => (do pure (f.offset,← sizeOf f.type) : Sem (Nat × Nat))).run P W = .ok (fs.map fun f => (f.offset,(szOf P f.type).getD 0)) W := by
    refine run_mapM_arr _ _ fs (fun f hf => ?_);have := Array.all_eq_true_iff_forall_mem.mp hfs f (by simpa using hf);obtain ⟨z,hz⟩ := Option.isSome_iff_exists.mp this
    simp [run_sizeOf' hz,hz]
  obtain ⟨arr',e1,e2⟩ := fill_get (wr := wr) (W := W) (own := own) ((fs.map fun f => (f.offset,(szOf P f.type).getD 0))[·]?) (ps.map fun p => (p.1,p.2.1,p.2.2.ev env))
    (parts.map fun (i,x) => (i,a.eval x)).toList zv.cells zero v hzs.symm hzr h (by simpa using c1) (fun k i u off size x hk hk' => by
      simp only [Array.toList_map,List.getElem?_map,Option.map_eq_some_iff] at hk hk';obtain ⟨⟨i0,o⟩,hk,he⟩ := hk;obtain ⟨⟨off0,size0,d⟩,hk',he'⟩ := hk'
      simp at he he'
      obtain ⟨rfl,rfl⟩ := he;obtain ⟨rfl,rfl,rfl⟩ := he';obtain ⟨⟨f,f1,f2,f3⟩,f4⟩ := c2 k i0 o off0 size0 d hk hk';exact ⟨by simp [f1,f2,f3],f4⟩)
  refine ⟨.agg arr',?_,e2⟩;simp only [Instr.build,Sem.run_bind,run_zeroValue' hzv,Result.andThen_ok,run_underlying hu,hm,e1]
  rfl
theorem chkPartsA_spec {z : Nat} {env : List V} {a : Act} (hG : GOk wr W) (hv : ∀ t,VR wr W own (env.getD t .un) (a.tmps.getD t undef)) :
    ∀ (ps : List (Nat × Operand)) (qs : List (Nat × Nat × Opd)),chkPartsA z ps qs = true → ps.length = qs.length ∧
      ∀ (k i : Nat) (o : Operand) (off size : Nat) (d : Opd),ps[k]? = some (i,o) → qs[k]? = some (off,size,d) → (off = i * z ∧ size = z) ∧ VR wr W own (d.ev env) (a.eval o)
  | [],[],_ => ⟨rfl,fun k i o off size d h => by simp at h⟩
  | (i,x) :: r,(off,size,d) :: s,h => by
    simp only [chkPartsA,Bool.and_eq_true,beq_iff_eq] at h;obtain ⟨⟨h1,h2⟩,h3⟩ := h;obtain ⟨g1,g2⟩ := chkPartsA_spec hG hv r s h3;refine ⟨by simp [g1],fun k i' o' off' size' d' hk hk' => ?_⟩;cases k with
    | zero =>
      simp at hk hk'
      obtain ⟨rfl,rfl⟩ := hk;obtain ⟨rfl,rfl,rfl⟩ := hk';exact ⟨h1,opd_sim hG hv h2⟩
    | succ k => exact g2 k i' o' off' size' d' (by simpa using hk) (by simpa using hk')
  | [],_ :: _,h => by simp [chkPartsA] at h
  | _ :: _,[],h => by simp [chkPartsA] at h
theorem bldA_run {t e : TypeId} {l z : Nat} {zero : List V} {parts : Array (Nat × Operand)} {ps : List (Nat × Nat × Opd)} (hz : chkZero P t zero = true) (hu : P.underlying t = some (.array l e))
    (hsz : szOf P e = some z) (hp : chkPartsA z parts.toList ps = true) (hG : GOk wr W) {env : List V} {a : Act} (hv : ∀ t,VR wr W own (env.getD t .un) (a.tmps.getD t undef)) {v : V}
    (h : bldV zero (ps.map fun p => (p.1,p.2.1,p.2.2.ev env)) = some v) : ∃ v',(Instr.build t (parts.map fun (i,x) => (i,a.eval x))).run P W = .ok v' W ∧ VR wr W own v v' := by
  obtain ⟨zv,hzv,hzs,hzr⟩ := chkZero_spec (wr := wr) (W := W) (own := own) hz;obtain ⟨c1,c2⟩ := chkPartsA_spec hG hv _ _ hp;obtain ⟨arr',e1,e2⟩ := fill_get (wr := wr) (W := W) (own := own) (fun i => some (i * z,z)) (ps.map fun p => (p.1,p.2.1,p.2.2.ev env))
    (parts.map fun (i,x) => (i,a.eval x)).toList zv.cells zero v hzs.symm hzr h (by simpa using c1) (fun k i u off size x hk hk' => by
      simp only [Array.toList_map,List.getElem?_map,Option.map_eq_some_iff] at hk hk';obtain ⟨⟨i0,o⟩,hk,he⟩ := hk;obtain ⟨⟨off0,size0,d⟩,hk',he'⟩ := hk'
      simp at he he'
      obtain ⟨rfl,rfl⟩ := he;obtain ⟨rfl,rfl,rfl⟩ := he';obtain ⟨⟨f1,f2⟩,f4⟩ := c2 k i0 o off0 size0 d hk hk';exact ⟨by simp [f1,f2],f4⟩)
  refine ⟨.agg arr',?_,e2⟩;simp only [Instr.build,Sem.run_bind,run_zeroValue' hzv,Result.andThen_ok,run_underlying hu,run_sizeOf' hsz,e1]
  rfl
theorem flat_set {z : Nat} : ∀ (xs : List V) (i : Nat) (v : V),(∀ x ∈ xs,x.cells.length = z) → v.cells.length = z → i < xs.length → (xs.set i v).flatMap V.cells = splice (xs.flatMap V.cells) (i * z) v.cells
  | [],i,v,_,_,h => by simp at h
  | x :: r,0,v,hz,hv,_ => by
    have := hz x (by simp)
    simp [splice,hv,← this]
  | x :: r,i + 1,v,hz,hv,h => by
    have hx := hz x (by simp);have ih := flat_set r i v (fun y hy => hz y (by simp [hy])) hv (by simpa using h);have e1 : (i + 1) * z = x.cells.length + i * z := by rw [hx,Nat.succ_mul]; omega
    have t1 : (x.cells ++ r.flatMap V.cells).take (x.cells.length + i * z) = x.cells ++ (r.flatMap V.cells).take (i * z) := by
      rw [List.take_append,List.take_of_length_le (by omega)]; congr 2; omega
    have t2 : (x.cells ++ r.flatMap V.cells).drop (x.cells.length + i * z + v.cells.length) = (r.flatMap V.cells).drop (i * z + v.cells.length) := by
      rw [List.drop_append,List.drop_of_length_le (by omega),List.nil_append]; congr 1; omega
    simp only [List.set_cons_succ,List.flatMap_cons,ih,splice,e1,t1,t2,List.append_assoc]
theorem flat_len {z : Nat} : ∀ (xs : List V),(∀ x ∈ xs,x.cells.length = z) → (xs.flatMap V.cells).length = xs.length * z
  | [],_ => by simp
  | x :: r,h => by
    have ih := flat_len r (fun y hy => h y (by simp [hy]));rw [List.flatMap_cons,List.length_append,ih,h x (by simp),List.length_cons,Nat.succ_mul]; omega
theorem flat_get {z : Nat} : ∀ (xs : List V),(∀ x ∈ xs,x.cells.length = z) → ∀ (i : Nat) (x : V) (j : Nat) (c : V),xs[i]? = some x → x.cells[j]? = some c → (xs.flatMap V.cells)[i * z + j]? = some c
  | [],_,i,x,j,c,h,_ => by simp at h
  | y :: r,hz,0,x,j,c,h,h' => by
    simp at h; subst h
    have : j < y.cells.length := (List.getElem?_eq_some_iff.mp h').1;rw [List.flatMap_cons,List.getElem?_append_left (by omega)]; simpa using h'
  | y :: r,hz,i + 1,x,j,c,h,h' => by
    have hy := hz y (by simp);have ih := flat_get r (fun q hq => hz q (by simp [hq])) i x j c (by simpa using h) h';have e : (i + 1) * z + j = y.cells.length + (i * z + j) := by rw [hy,Nat.succ_mul]; omega
    rw [List.flatMap_cons,e,List.getElem?_append_right (by omega)]
    simpa using ih
theorem setParts_spec {z : Nat} : ∀ (ps : List (Nat × V)) (xs : List V),(∀ x ∈ xs,x.cells.length = z) → (∀ p ∈ ps,p.2.cells.length = z ∧ p.2.cells.all V.isCell = true ∧ p.1 < xs.length) →
    (∀ x ∈ setParts xs ps,x.cells.length = z) ∧ (setParts xs ps).length = xs.length ∧ bldV (xs.flatMap V.cells) (ps.map fun p => (p.1 * z,z,p.2)) = some (.ag ((setParts xs ps).flatMap V.cells))
  | [],xs,hz,_ => ⟨hz,rfl,rfl⟩
  | (i,v) :: r,xs,hz,hp => by
    obtain ⟨h1,h2,h3⟩ := hp (i,v) (by simp);have hz' : ∀ x ∈ xs.set i v,x.cells.length = z := by
      intro x hx;rcases List.mem_or_eq_of_mem_set hx with h | h
      · exact hz x h
      · rw [h]; exact h1
    obtain ⟨a,b,c⟩ := setParts_spec r (xs.set i v) hz' (fun p hp' => by
      have := hp p (by simp [hp']); simpa using this)
    refine ⟨a,by simpa [setParts] using b,?_⟩;have hfit : i * z + z ≤ (xs.flatMap V.cells).length := by
      rw [flat_len xs hz,← Nat.succ_mul]; exact Nat.mul_le_mul_right _ h3
    simp only [List.map_cons,bldV,setParts];rw [if_pos ⟨h1,h2,hfit⟩,← flat_set xs i v hz h1 h3];exact c
theorem rep_flat {n : Nat} {x : V} : (List.replicate n x).flatMap V.cells = (List.replicate n x.cells).flatten := by
  simp [List.flatMap]
theorem bsl_run {t : TypeId} {z n : Nat} {ag fr : Bool} {zero : V} {parts : Array (Nat × Operand)} {ps : List (Nat × Opd)} (hel : chkEl P t z ag = true)
    (hzz : (match sliceOf P t with | some e => chkZero P e zero.cells | none => false) = true) (hps : all2 (fun p q => p.1 == q.1 && chkOpd p.2 q.2) parts.toList ps = true) (hsz : n * z ≤ 16777216)
    {env : List V} {a : Act} (hv : ∀ t,VR wr W own (env.getD t .un) (a.tmps.getD t undef)) {H H' : Heap} (s : Rd wr W own H) (s2 : fr = false → St wr W own H) {v : V}
    (h : bslV H z ag n zero (ps.map fun p => (p.1,p.2.ev env)) fr = some (v,H')) :
    ∃ v' W',(Instr.buildSlice t n (parts.map fun (i,x) => (i,a.eval x))).run P W = .ok v' W' ∧
      ((fr = true → Gl W W' ∧ VR wr W' own v v' ∧ H' = H) ∧ (fr = false → ∃ wr' own',Ext wr W own wr' W' own' ∧ St wr' W' own' H' ∧ VR wr' W' own' v v')) := by
  obtain ⟨e,hu,hze,ha,hht,hz0,_⟩ := chkEl_spec hel;have hso : sliceOf P t = some e := by simp [sliceOf,hu]
  rw [hso] at hzz;unfold bslV at h
  split at h
  case isFalse => cases h
  rename_i hcond
  simp only [Bool.and_eq_true,List.all_eq_true,okEl,beq_iff_eq,decide_eq_true_eq,Bool.or_eq_true,Bool.not_eq_true'] at hcond;obtain ⟨⟨hcz,hcag⟩,hcp⟩ := hcond;obtain ⟨q1,q2⟩ := all2_get hps;have key : ∀ own2 : Own,(∀ (k i : Nat) (o : Operand) (d : Opd),parts.toList[k]? = some (i,o) → ps[k]? = some (i,d) → VR wr W own2 (d.ev env) (a.eval o)) →
      ∃ arr',(Instr.buildSlice t n (parts.map fun (i,x) => (i,a.eval x))).run P W = .ok (.slice (some ⟨W.heap.size,0,none⟩) n n) (W.alloc (.cells arr' e)) ∧
        VR wr W own2 (.ag ((setParts (List.replicate n zero) (ps.map fun p => (p.1,p.2.ev env))).flatMap V.cells)) (.agg arr') := by
    intro own2 hrel;obtain ⟨zv,hzv,hzs,hzr⟩ := chkZero_spec (wr := wr) (W := W) (own := own2) hzz;obtain ⟨s1,s2,s3⟩ := setParts_spec (z := z) (ps.map fun p => (p.1,p.2.ev env)) (List.replicate n zero) (fun x hx => by rw [(List.mem_replicate.mp hx).2]; exact hcz)
      (fun p hp => by have := hcp p hp; exact ⟨this.1.1.1.1,by simpa using this.1.1.2,by simpa using this.1.2⟩)
    have hg := made_get (wr := wr) (W := W) (own := own2) hzs hzr n n (Nat.le_refl _) (by omega);rw [hcz] at hg;obtain ⟨arr',e1,e2⟩ := fill_get (wr := wr) (W := W) (own := own2) (fun i => some (i * z,z)) ((ps.map fun p => (p.1,p.2.ev env)).map fun p => (p.1 * z,z,p.2))
      (parts.map fun (i,x) => (i,a.eval x)).toList (madeCells zv.cells (n * z)) ((List.replicate n zero).flatMap V.cells) _
      (by rw [size_madeCells,rep_flat]; simp [hcz]) (by rw [rep_flat]; exact hg.2) s3 (by simpa using q1) (fun k i u off size x hk hk' => by
        simp only [Array.toList_map,List.map_map,List.getElem?_map,Option.map_eq_some_iff] at hk hk';obtain ⟨⟨i0,o⟩,hk,he⟩ := hk;obtain ⟨⟨i1,d⟩,hk',he'⟩ := hk'
        simp at he he'
        obtain ⟨rfl,rfl⟩ := he;obtain ⟨rfl,rfl,rfl⟩ := he';have := q2 k _ _ hk hk';simp only [Bool.and_eq_true,beq_iff_eq] at this;obtain ⟨t1,t2⟩ := this;subst t1;exact ⟨rfl,hrel k _ o d hk hk'⟩)
    refine ⟨arr',?_,e2⟩;have hnot : ¬ (n * z > 16777216) := by omega
    have hfill : ∀ c : Array Value,c = madeCells zv.cells (n * z) → Instr.fill (fun i => some (i * z,z)) c (parts.map fun (i,x) => (i,a.eval x)).toList = some arr' := by
      rintro c rfl; exact e1
    by_cases hn : n * z = 0
    · have := hfill #[] (by simp [madeCells,hn]);simp only [Instr.buildSlice,Sem.run_bind,run_underlying hu,Result.andThen_ok,run_sizeOf' hze];rw [if_neg (by simpa using hnot)];simp only [hn,↓reduceIte,Sem.run_bind,Sem.run_pure,Result.andThen_ok,Array.range_zero',Array.map_empty,this,newRow,run_newObj]
      rfl
    · have := hfill ((Array.range (n * z)).map (zv.cells[· % zv.cells.size]!)) rfl;simp only [Instr.buildSlice,Sem.run_bind,run_underlying hu,Result.andThen_ok,run_sizeOf' hze];rw [if_neg (by simpa using hnot)];simp only [hn,↓reduceIte,Sem.run_bind,Sem.run_pure,Result.andThen_ok,run_zeroValue' hzv,this,newRow,run_newObj]
      rfl
  obtain ⟨s1,s2,s3⟩ := setParts_spec (z := z) (ps.map fun p => (p.1,p.2.ev env)) (List.replicate n zero) (fun x hx => by rw [(List.mem_replicate.mp hx).2]; exact hcz)
      (fun p hp => by have := hcp p hp; exact ⟨this.1.1.1.1,by simpa using this.1.1.2,by simpa using this.1.2⟩)
  have hrel : ∀ (k i : Nat) (o : Operand) (d : Opd),parts.toList[k]? = some (i,o) → ps[k]? = some (i,d) → VR wr W own (d.ev env) (a.eval o) := by
    intro k i o d hk hk';have := q2 k _ _ hk hk';simp only [Bool.and_eq_true] at this;exact opd_sim s.glob hv this.2
  have hxl : (setParts (List.replicate n zero) (ps.map fun p => (p.1,p.2.ev env))).length = n := by rw [s2]; simp
  cases fr with
  | true =>
    simp at h
    obtain ⟨rfl,rfl⟩ := h;obtain ⟨arr',e1,e2⟩ := key own0 (fun k i o d hk hk' => by
      have hf := (hcp (i,d.ev env) (by simp only [List.mem_map]; exact ⟨(i,d),List.mem_of_getElem? hk',rfl⟩)).2;exact VR.of_free _ (by simpa using hf) (hrel k i o d hk hk'))
    refine ⟨_,_,e1,fun _ => ⟨Gl.alloc _ _,?_,rfl⟩,fun h => by cases h⟩;cases e2 with
    | ag hl hvv =>
      have q : VR wr (W.alloc (.cells arr' e)) own (.fz (setParts (List.replicate n zero) (ps.map fun p => (p.1,p.2.ev env)))) (.slice (some ⟨W.heap.size,0,none⟩) (setParts (List.replicate n zero) (ps.map fun p => (p.1,p.2.ev env))).length n) := by
        refine .fz z (fun i j => arr'.getD (i * z + j) undef) (by omega) (fun _ => ⟨rfl,fun hw => by have := s.wr_lt _ hw; omega,by simp⟩) (fun i x hx => s1 x (List.mem_of_getElem? hx)) (fun i x j c hx hj => ?_) (fun i x j c hx hj => ?_)
        · have hf := flat_get _ s1 i x j c hx hj;have hlt : i * z + j < arr'.size := by rw [← hl]; exact (List.getElem?_eq_some_iff.mp hf).1
          have e0 := alloc_get W (.cells arr' e);simp only [World.cell?,e0,Nat.zero_add]
          simp [Array.getD_eq_getD_getElem?,hlt]
        · exact (hvv _ c (flat_get _ s1 i x j c hx hj)).gl (Gl.alloc _ _)
      rwa [hxl] at q
  | false =>
    simp at h
    obtain ⟨rfl,rfl⟩ := h;obtain ⟨arr',e1,e2⟩ := key own hrel;refine ⟨_,_,e1,(fun h => by cases h),fun _ => ?_⟩;cases e2 with
    | ag hl hvv =>
      obtain ⟨wr',own',f1,f2,f3⟩ := (s2 rfl).push (ty := e) (Nat.le_of_eq hl) hvv ⟨W.drawn,rfl⟩;refine ⟨wr',own',f1,f2,.sl f3 (Nat.le_refl _) (.inr (by simp)) (.inr ?_)⟩;rw [← hl,flat_len _ s1,hxl]; omega
theorem omap_spec {α β : Type} {f : α → Option β} : ∀ {l : List α} {r : List β},omap f l = some r → l.length = r.length ∧ ∀ (j : Nat) a,l[j]? = some a → ∃ b,r[j]? = some b ∧ f a = some b
  | [],r,h => by simp [omap] at h; subst h; exact ⟨rfl,fun j a h => by simp at h⟩
  | a :: l,r,h => by
    simp only [omap] at h
    split at h
    · rename_i b r' hb hr
      cases h;obtain ⟨h1,h2⟩ := omap_spec hr;refine ⟨by simp [h1],fun j x hx => ?_⟩;cases j with
      | zero => simp at hx; subst hx; exact ⟨b,by simp,hb⟩
      | succ j => simpa using h2 j x (by simpa using hx)
    · cases h
theorem fold_push (l : List UInt8) : ∀ (s : ByteArray),(l.map fun b => ((b.toNat : Nat) : Int)).foldl (fun r n => r.push (UInt8.ofNat n.toNat)) s = ⟨s.data ++ l.toArray⟩ := by
  induction l with
  | nil => intro s; simp
  | cons b l ih =>
    intro s;rw [List.map_cons,List.foldl_cons,ih]
    simp [ByteArray.push]
theorem VR.int_eq {k : IntKind} {n : Int} {v : Value} (h : VR wr W own (.int k n) v) : v = .int k n := by cases h; rfl
theorem b2s_run {src dst : TypeId} (hs : isU8 P src = true) (hd : P.underlying dst = some .string) {H : Heap} (s : Rd wr W own H) {x v : V} {x' : Value} (hx : VR wr W own x x') (h : b2sV H x = some v) :
    ∃ v',(convert src dst x').run P W = .ok v' W ∧ VR wr W own v v' := by
  unfold isU8 at hs
  split at hs
  case h_2 => cases hs
  rename_i e he
  have hu := sliceOf_eq he;simp only [Bool.and_eq_true,beq_iff_eq] at hs;have he8 : P.underlying e = some (.int .u8) := by
    cases hq : P.underlying e with
    | none => simp [hq] at hs
    | some d => cases d <;> simp [hq] at hs; rename_i k; cases k <;> simp at hs; rfl
  have main : ∀ (cs : List V) (n : Nat) (l : List UInt8),newCells H x 1 = some (cs,n) → omap byteOf cs = some l → ∀ a m cap,x' = .slice (some a) m cap →
      ∃ v',(convert src dst x').run P W = .ok v' W ∧ VR wr W own (.str ⟨l.toArray⟩) v' := by
    intro cs n l h1 h2 a m cap hxe;obtain ⟨c1,c2,vs,c3,c4,c5⟩ := newCells_run (P := P) s hx h1;obtain ⟨o1,o2⟩ := omap_spec h2;have hm : m = n := by subst hxe; simp [Builtin.lenOf] at c2; exact c2
    subst hm;subst hxe;have hvs : vs = (l.map fun b => ((b.toNat : Nat) : Int)).map (Value.int .u8) := by
      apply List.ext_getElem?;intro j;rcases Nat.lt_or_ge j cs.length with hj | hj
      · obtain ⟨b,hb,hf⟩ := o2 j cs[j] (List.getElem?_eq_getElem hj);have hv : vs[j]? = some vs[j] := List.getElem?_eq_getElem (by omega);have hr := c4 j cs[j] vs[j] (List.getElem?_eq_getElem hj) hv;have : ∃ n : Int,cs[j] = .int .u8 n ∧ 0 ≤ n ∧ n < 256 ∧ b = UInt8.ofNat n.toNat := by
          unfold byteOf at hf
          split at hf
          · rename_i n hn
            split at hf
            · rename_i h01; cases hf; exact ⟨n,hn,h01.1,h01.2,rfl⟩
            · cases hf
          · cases hf
        obtain ⟨n,hn,n0,n1,rfl⟩ := this;rw [hn] at hr;rw [hv,hr.int_eq]
        simp [hb]; omega
      · rw [List.getElem?_eq_none (by omega),List.getElem?_eq_none (by simp; omega)]
    have hl := c5 W (fun _ _ _ h => h);have hl' : (loadCells a m).run P W = .ok vs.toArray W := by simpa [Builtin.firstCells] using hl
    rw [hvs] at hl';have := run_bytesToString (P := P) W a m cap _ hl';rw [fold_push] at this;refine ⟨_,?_,.str _⟩;rw [run_convert_bytes_string W src dst e _ _ _ hu he8 hd,this]
    simp
  unfold b2sV at h
  split at h
  · cases h;cases hx;refine ⟨_,?_,.str _⟩;rw [run_convert_bytes_string W src dst e _ _ _ hu he8 hd]
    rfl
  · simp only [Option.bind_eq_some_iff,Option.map_eq_some_iff] at h;obtain ⟨⟨cs,n⟩,h1,l,h2,rfl⟩ := h;cases hx with
    | fzn =>
      simp [newCells,hdOk] at h1
      obtain ⟨rfl,rfl⟩ := h1
      simp [omap] at h2
      subst h2;refine ⟨_,?_,.str _⟩;rw [run_convert_bytes_string W src dst e _ _ _ hu he8 hd]
      rfl
    | fz => exact main cs n l h1 h2 _ _ _ rfl
  · simp only [Option.bind_eq_some_iff,Option.map_eq_some_iff] at h;obtain ⟨⟨cs,n⟩,h1,l,h2,rfl⟩ := h;cases hx with
    | sl => exact main cs n l h1 h2 _ _ _ rfl
  · cases h
theorem idxp_run {t e : TypeId} {l z : Nat} {n : Sh} (hu : P.underlying t = some (.array l e)) (hz : szOf P e = some z) (hs : chkSh P e n = true) {x i v : V} {x' i' : Value} (hx : VR wr W own x x') (hi : VR wr W own i i')
    (h : idxpV x i l z n = some v) : ∃ v',(Instr.indexAt t x' i').run P W = .ok v' W ∧ VR wr W own v v' := by
  unfold idxpV at h
  split at h
  · rename_i cs k m
    cases hi
    split at h
    · rename_i hn
      simp only [Option.bind_eq_some_iff] at h;obtain ⟨y,hy,h⟩ := h
      split at h
      case isFalse => cases h
      rename_i hag0
      cases h;cases hx with
      | fp cv hw hlt hc hv =>
        rename_i blk off
        have key : ∀ j c,y.cells[j]? = some c → cs[m.toNat * z + j]? = some c := by
          intro j c hj;cases n with
          | none =>
            simp only [takeSh] at hy;have hna : y.isAg = false := by simpa using hag0
            have hyc : y.cells = [y] := by cases y <;> first | rfl | cases hna
            rw [hyc] at hj;cases j with
            | zero => simp at hj; subst hj; simpa using hy
            | succ j => simp at hj
          | some q =>
            simp only [takeSh] at hy
            split at hy
            · cases hy;simp only [V.cells] at hj;have hjq : j < q := by have := (List.getElem?_eq_some_iff.mp hj).1; simp at this; omega
              rw [List.getElem?_take_of_lt hjq,List.getElem?_drop] at hj;exact hj
            · cases hy
        refine ⟨.pointer (some ⟨blk,off + m.toNat * z,none⟩),?_,.fp (fun j => cv (m.toNat * z + j)) hw hlt (fun j c hj => ?_) (fun j c hj => hv _ c (key j c hj))⟩
        · simp [Instr.indexAt,Instr.sureAddr,asIntOf,run_underlying hu,hn,run_sizeOf' hz,add_none]
        · have := hc _ c (key j c hj)
          rwa [Nat.add_assoc]
    · cases h
  · rename_i b g off k m
    cases hi
    split at h
    · rename_i hn
      cases h;cases hx with
      | ptr ho =>
        rename_i cb sh N
        refine ⟨.pointer (some ⟨cb,sh + off + m.toNat * z,none⟩),?_,by rw [Nat.add_assoc]; exact .ptr ho⟩
        simp [Instr.indexAt,Instr.sureAddr,asIntOf,run_underlying hu,hn,run_sizeOf' hz,add_none]
    · cases h
  · cases h
theorem mnx_run {mx : Bool} {x y v : V} {x' y' : Value} {ts : Array TypeId} {ty : TypeId} (hx : VR wr W own x x') (hy : VR wr W own y y') (h : mnxV mx x y = some v) :
    ∃ v',(if mx then Builtin.max_ ts ty #[x',y'] else Builtin.min_ ts ty #[x',y']).run P W = .ok v' W ∧ VR wr W own v v' := by
  unfold mnxV at h
  split at h
  · rename_i k a k' b
    cases h; cases hx; cases hy;cases mx with
    | true => exact ⟨.int k (if a < b then b else a),by simp [Builtin.max_,Builtin.max2],by simp only [if_true]; exact .int _ _⟩
    | false => exact ⟨.int k (if b < a then b else a),by simp [Builtin.min_,Builtin.min2],by simp only [Bool.false_eq_true,if_false]; exact .int _ _⟩
  · cases h
theorem clr_run {t ty e : TypeId} {z : Nat} {zc : List V} (hu : P.underlying t = some (.slice e)) (hz : szOf P e = some z) (hzc : chkZero P e zc = true) (h0 : 0 < z) (hl : zc.length = z)
    {H H' : Heap} (s : St wr W own H) {x v : V} {x' : Value} (hx : VR wr W own x x') (h : clrV H x z zc = some (v,H')) :
    ∃ v' W',(Builtin.clear_ #[t] ty #[x']).run P W = .ok v' W' ∧ ∃ wr' own',Ext wr W own wr' W' own' ∧ St wr' W' own' H' ∧ VR wr' W' own' v v' := by
  unfold clrV at h
  split at h
  · cases h;cases hx;exact ⟨.tuple #[],W,by simp [Builtin.clear_,run_underlying hu],wr,own,Ext.refl _ _ _,s,.tup rfl (fun j c h => by simp at h)⟩
  · rename_i b g off len z' ag
    simp only [Option.bind_eq_some_iff] at h;obtain ⟨cs,hcs,h⟩ := h
    split at h
    · rename_i hc
      cases h;obtain ⟨rfl,_,hcell,hlen,hfit⟩ := hc;cases hx with
      | sl ho hlc ha hN =>
        rename_i cb sh N a cap
        have hcap : cap ≠ 0 := by omega
        have hea := ha.resolve_left hcap;subst hea;obtain ⟨zv,hzv,hzs,hzr⟩ := chkZero_spec (wr := wr) (W := W) (own := own) hzc;obtain ⟨m1,m2⟩ := made_get (wr := wr) (W := W) (own := own) hzs hzr len len (Nat.le_refl _) (by omega);have hze : Builtin.zeroCells zv.cells len = madeCells zv.cells (len * zc.length) := by
          unfold Builtin.zeroCells madeCells; rw [hzs]
        have hfl : (List.replicate len zc).flatten.length = len * z' := by simp [hl]
        obtain ⟨W',r1,wr',own',r2,r3⟩ := store_row (P := P) s hcs ho (new := (List.replicate len zc).flatten) (vs := (Builtin.zeroCells zv.cells len).toList)
          (by rw [hze,hfl]; simp only [Array.length_toList,size_madeCells]; rw [hl]) (fun j c v hj hv => by
            have := m2 j c hj;rw [hze] at hv;have hv' : (madeCells zv.cells (len * zc.length))[j]? = some v := by simpa using hv
            rwa [getD_of_some hv'] at this) (by
            rw [List.all_eq_true];intro c hcm;obtain ⟨l,hl1,hl2⟩ := List.mem_flatten.mp hcm;obtain ⟨_,rfl⟩ := List.mem_replicate.mp hl1;exact List.all_eq_true.mp hcell c hl2) (by rw [hfl]; exact hfit)
        refine ⟨.tuple #[],W',?_,wr',own',r2,r3,.tup rfl (fun j c h => by simp at h)⟩;obtain ⟨k,rfl⟩ : ∃ k,len = k + 1 := ⟨len - 1,by omega⟩
        simp [Builtin.clear_,run_underlying hu,run_zeroValue' hzv,r1]
    · cases h
  · cases h
end
end Go.Eng
namespace Go.Eng
open Go
set_option linter.unusedSectionVars false
set_option linter.unusedVariables false
set_option linter.unusedSimpArgs false
variable [Glob]
theorem nan_iff (w : Nat) : (Ieee.double.read w).isNaN = decide (9218868437227405312 < w % 9223372036854775808) := by
  have hs : Ieee.double.signWeight = 9223372036854775808 := by decide
  have hb : Ieee.double.binade = 4503599627370496 := by decide
  have hi : Ieee.double.infRung = 9218868437227405312 := by decide
  unfold Ieee.Format.read;simp only [hs,hb,hi]
  generalize w % 9223372036854775808 = r
  by_cases h1 : r < 4503599627370496
  · rw [if_pos h1]; symm; simp only [Ieee.Datum.isNaN]; exact decide_eq_false (by omega)
  · rw [if_neg h1]
    by_cases h2 : r < 9218868437227405312
    · rw [if_pos h2]; symm; simp only [Ieee.Datum.isNaN]; exact decide_eq_false (by omega)
    · rw [if_neg h2]
      by_cases h3 : r = 9218868437227405312
      · rw [if_pos h3]; symm; simp only [Ieee.Datum.isNaN]; exact decide_eq_false (by omega)
      · rw [if_neg h3]; symm; simp only [Ieee.Datum.isNaN]; exact decide_eq_true (by omega)
theorem nan_neg {b : Nat} (h : (Ieee.double.read b).isNaN = true) : (Ieee.double.read (b ^^^ 9223372036854775808)).isNaN = true := by
  rw [nan_iff] at h ⊢;have e : (b ^^^ 9223372036854775808) % 9223372036854775808 = b % 9223372036854775808 := by
    have := Nat.xor_mod_two_pow (a := b) (b := 9223372036854775808) (n := 63)
    simpa using this
  rw [e]; exact h
theorem nan_cut (x y t : Nat) : (Ieee.double.read ((Question.nanBits .f64 x y).cut t)).isNaN = true := by
  rw [nan_iff];simp only [Question.cut];apply decide_eq_true;have h1 : t / 2 % (2 ^ 52 - 1) < 2 ^ 52 - 1 := Nat.mod_lt _ (by decide);have h2 : t % 2 < 2 := Nat.mod_lt _ (by decide)
  generalize t / 2 % (2 ^ 52 - 1) = r at *
  generalize t % 2 = s at *
  have : s = 0 ∨ s = 1 := by omega
  rcases this with rfl | rfl <;> omega
theorem quiet_nan (s : Bool) (t : Nat) : (Ieee.double.read (Ieee.double.write (.nan s (Ieee.double.quiet t)))).isNaN = true := by
  have hs : Ieee.double.signWeight = 9223372036854775808 := by decide
  have hb : Ieee.double.binade = 2 ^ 52 := by decide
  have hi : Ieee.double.infRung = 9218868437227405312 := by decide
  rw [nan_iff];simp only [Ieee.Format.write,Ieee.Format.word,hs,hb,hi];have hq : (Ieee.double.quiet t % 2 ^ 52).testBit 51 = true := by
    rw [Nat.testBit_mod_two_pow];show (decide (51 < 52) && (t ||| 2 ^ 51).testBit 51) = true;have h51 : Nat.testBit (2 ^ 51) 51 = true := by decide
    rw [Nat.testBit_or,h51]; simp
  have h0 : Ieee.double.quiet t % 2 ^ 52 ≠ 0 := by intro h; rw [h] at hq; simp at hq
  have h1 : Ieee.double.quiet t % 2 ^ 52 < 2 ^ 52 := Nat.mod_lt _ (by decide)
  generalize Ieee.double.quiet t % 2 ^ 52 = r at *
  apply decide_eq_true;cases s
  · simp only [Bool.false_eq_true,if_false]; omega
  · simp only [if_true]; omega
section
variable {wr : Nat → Prop} {W : World} {own : Own} {P : Program}
theorem fl_val {a : Option Nat} {v' : Value} (h : VR wr W own (.fl a) v') : ∃ b,v' = .float .f64 b ∧ ((a = some b) ∨ (a = none ∧ (Ieee.double.read b).isNaN = true)) := by
  cases h with
  | flt b => exact ⟨b,rfl,.inl rfl⟩
  | fnan b h => exact ⟨b,rfl,.inr ⟨rfl,h⟩⟩
theorem sum_nan {d e : Ieee.Datum} (h : d.isNaN = true ∨ e.isNaN = true) : d.sum e = none := by
  cases d <;> cases e <;> simp [Ieee.Datum.isNaN,Ieee.Datum.sum] at h ⊢
theorem prod_nan {d e : Ieee.Datum} (h : d.isNaN = true ∨ e.isNaN = true) : d.product e = none := by
  cases d <;> cases e <;> simp [Ieee.Datum.isNaN,Ieee.Datum.product] at h ⊢
theorem quot_nan {d e : Ieee.Datum} (n : Nat) (h : d.isNaN = true ∨ e.isNaN = true) : d.quotient n e = none := by
  cases d <;> cases e <;> simp [Ieee.Datum.isNaN,Ieee.Datum.quotient] at h ⊢
theorem ord_nan {d e : Ieee.Datum} (h : d.isNaN = true ∨ e.isNaN = true) : d.order e = none := by
  cases d <;> cases e <;> simp [Ieee.Datum.isNaN,Ieee.Datum.order] at h ⊢
theorem opp_nan (d : Ieee.Datum) : d.opposite.isNaN = d.isNaN := by cases d <;> rfl
theorem flA_eq {f : Nat → Nat → Option Nat} (hf : ∀ x y,(Ieee.double.read x).isNaN = true ∨ (Ieee.double.read y).isNaN = true → f x y = none) {a b : Option Nat} {x y : Nat}
    (ha : a = some x ∨ (a = none ∧ (Ieee.double.read x).isNaN = true)) (hb : b = some y ∨ (b = none ∧ (Ieee.double.read y).isNaN = true)) : flA f a b = f x y := by
  rcases ha with rfl | ⟨rfl,ha⟩ <;> rcases hb with rfl | ⟨rfl,hb⟩
  · rfl
  · rw [hf x y (.inr hb)]; rfl
  · rw [hf x y (.inl ha)]; rfl
  · rw [hf x y (.inl ha)]; rfl
theorem flO_eq {a b : Option Nat} {x y : Nat} (ha : a = some x ∨ (a = none ∧ (Ieee.double.read x).isNaN = true)) (hb : b = some y ∨ (b = none ∧ (Ieee.double.read y).isNaN = true)) :
    flO a b = Ieee.double.order x y := by
  have hf : ∀ x y,(Ieee.double.read x).isNaN = true ∨ (Ieee.double.read y).isNaN = true → Ieee.double.order x y = none := fun x y h => ord_nan h
  rcases ha with rfl | ⟨rfl,ha⟩ <;> rcases hb with rfl | ⟨rfl,hb⟩
  · rfl
  · rw [hf x y (.inr hb)]; rfl
  · rw [hf x y (.inl ha)]; rfl
  · rw [hf x y (.inl ha)]; rfl
theorem ari_run (op : BinOp) (f : Nat → Nat → Option Nat) {x y : Nat} (h : Op.floatArith op .f64 x y = ((match f x y with | some r => pure (.float .f64 r) | none => do pure (.float .f64 (← choose (.nanBits .f64 x y)))) : Sem Value)) :
    ∃ v' W',(Op.floatArith op .f64 x y).run P W = .ok v' W' ∧ Gl W W' ∧ VR wr W' own (.fl (f x y)) v' := by
  rw [h];cases hf : f x y with
  | some r => exact ⟨_,W,rfl,Gl.refl _,.flt r⟩
  | none =>
    refine ⟨.float .f64 ((Question.nanBits .f64 x y).cut (W.tape W.drawn (.nanBits .f64 x y))),{ W with drawn := W.drawn + 1 },rfl,Gl.drawn _ _,.fnan _ (nan_cut _ _ _)⟩
theorem eqGuard_float (op : BinOp) (t : TypeId) (xo yo : Operand) (k k' : FloatKind) (a b : Nat) : eqGuard op t xo yo (.float k a) (.float k' b) = pure () := by
  cases op <;> rfl
theorem fbin_run {op : BinOp} {x y v : V} {x' y' : Value} {t : TypeId} {xo yo : Operand} (hx : VR wr W own x x') (hy : VR wr W own y y') (h : fbinV op x y = some v) :
    ∃ v' W',(do eqGuard op t xo yo x' y'; binOp op t x' y' : Sem Value).run P W = .ok v' W' ∧ Gl W W' ∧ VR wr W' own v v' := by
  unfold fbinV at h
  split at h
  case h_2 => cases h
  rename_i a b
  obtain ⟨m,rfl,hm⟩ := fl_val hx;obtain ⟨n,rfl,hn⟩ := fl_val hy;rw [eqGuard_float];have ho := flO_eq hm hn;cases op <;> dsimp only at h <;> (try (cases h; done)) <;> cases h
  · rw [flA_eq (f := Ieee.double.add) (fun x y h => by show ((Ieee.double.read x).sum (Ieee.double.read y)).map _ = none; rw [sum_nan h]; rfl) hm hn];exact ari_run .add Ieee.double.add rfl
  · rw [flA_eq (f := Ieee.double.sub) (fun x y h => by show ((Ieee.double.read x).sum (Ieee.double.read y).opposite).map _ = none; rw [sum_nan (by rw [opp_nan]; exact h)]; rfl) hm hn];exact ari_run .sub Ieee.double.sub rfl
  · rw [flA_eq (f := Ieee.double.mul) (fun x y h => by show ((Ieee.double.read x).product (Ieee.double.read y)).map _ = none; rw [prod_nan h]; rfl) hm hn];exact ari_run .mul Ieee.double.mul rfl
  · rw [flA_eq (f := Ieee.double.div) (fun x y h => by show ((Ieee.double.read x).quotient _ (Ieee.double.read y)).map _ = none; rw [quot_nan _ h]; rfl) hm hn];exact ari_run .quo Ieee.double.div rfl
  all_goals (rw [ho]; exact ⟨_,W,rfl,Gl.refl _,.bool _⟩)
theorem fneg_run {x v : V} {x' : Value} (hx : VR wr W own x x') (h : fnegV x = some v) : ∃ v',(Op.unary .neg x').run P W = .ok v' W ∧ VR wr W own v v' := by
  unfold fnegV at h
  split at h
  · cases hx; cases h; exact ⟨_,rfl,.flt _⟩
  · cases hx with
    | fnan b hb => cases h; exact ⟨_,rfl,.fnan _ (nan_neg hb)⟩
  · cases h
theorem i2f_run {s d : TypeId} (hs : hasT P s = true) (hd : P.underlying d = some (.float .f64)) {x v : V} {x' : Value} (hx : VR wr W own x x') (h : i2fV x = some v) :
    ∃ v',(convert s d x').run P W = .ok v' W ∧ VR wr W own v v' := by
  unfold i2fV at h
  split at h
  · rename_i k n
    cases hx; cases h;obtain ⟨ds,hds⟩ := Option.isSome_iff_exists.mp (show (P.underlying s).isSome = true from hs);refine ⟨.float .f64 (Ieee.double.write (.number (n < 0) n.natAbs 0)),?_,.flt _⟩;simp only [convert,Sem.run_bind,run_underlying hds,run_underlying hd,Result.andThen_ok];cases ds <;> rfl
  · cases h
theorem f2i_run {s d : TypeId} {k : IntKind} (hs : hasT P s = true) (hd : P.underlying d = some (.int k)) {x v : V} {x' : Value} (hx : VR wr W own x x') (h : f2iV k x = some v) :
    ∃ v',(convert s d x').run P W = .ok v' W ∧ VR wr W own v v' := by
  unfold f2iV at h
  split at h
  · rename_i b
    cases hx
    split at h
    · rename_i n hn
      split at h
      · rename_i hk
        cases h;obtain ⟨ds,hds⟩ := Option.isSome_iff_exists.mp (show (P.underlying s).isSome = true from hs);refine ⟨.int k n,?_,.int _ _⟩;have e : (Conv.floatToInt .f64 b k).run P W = .ok (.int k n) W := by
          unfold Conv.floatToInt;show (match (Ieee.double.read b).toInt .zero with | some n => _ | none => _ : Sem Value).run P W = _;rw [hn];simp only [hk,and_self,if_true]; rfl
        simp only [convert,Sem.run_bind,run_underlying hds,run_underlying hd,Result.andThen_ok];cases ds <;> exact e
      · cases h
    · cases h
  · cases h
theorem xc_rows : (Extern.allNextRows.lookup "math.Float64bits").isNone = true ∧ (Extern.allNextRows.lookup "math.Float64frombits").isNone = true ∧ (Extern.allNextRows.lookup "math.archTrunc").isNone = true ∧ (Extern.allNextRows.lookup "").isNone = true := by
  refine ⟨?_,?_,?_,?_⟩ <;> decide +kernel
theorem xc_gen : (Extern.allGenericRows.lookup "math.Float64bits").isNone = true ∧ (Extern.allGenericRows.lookup "math.Float64frombits").isNone = true ∧ (Extern.allGenericRows.lookup "math.archTrunc").isNone = true := by
  refine ⟨?_,?_,?_⟩ <;> decide +kernel
theorem xc_typ : (Extern.allTypedRows.lookup "math.Float64bits").isNone = true ∧ (Extern.allTypedRows.lookup "math.Float64frombits").isNone = true ∧ (Extern.allTypedRows.lookup "math.archTrunc").isNone = true := by
  refine ⟨?_,?_,?_⟩ <;> decide +kernel
theorem xc_all : Extern.allRows.lookup "math.Float64bits" = some Extern.MathFloatBits.float64bits ∧ Extern.allRows.lookup "math.Float64frombits" = some Extern.MathFloatBits.float64frombits ∧ Extern.allRows.lookup "math.archTrunc" = some (Extern.MathFloor.toIntegral "math.archTrunc" .zero) := by
  refine ⟨?_,?_,?_⟩ <;> kernel_rfl
def XF.fn : XF → Array Value → Sem Value
  | .bits => Extern.MathFloatBits.float64bits
  | .frombits => Extern.MathFloatBits.float64frombits
  | .trunc => Extern.MathFloor.toIntegral "math.archTrunc" .zero
theorem xc_next {fn : Func} {e : XF} (h1 : fn.name = e.name) (h2 : fn.origin = "") : Extern.findNext fn = none := by
  obtain ⟨a,b,c,d⟩ := xc_rows;rw [Option.isNone_iff_eq_none] at a b c d;cases e <;> simp only [XF.name] at h1 <;> simp [Extern.findNext,h1,h2,a,b,c,d]
theorem xc_find {fn : Func} {e : XF} (h1 : fn.name = e.name) : Extern.find fn = some e.fn := by
  obtain ⟨a,b,c⟩ := xc_gen;obtain ⟨a',b',c'⟩ := xc_typ;obtain ⟨a2,b2,c2⟩ := xc_all;rw [Option.isNone_iff_eq_none] at a b c a' b' c';cases e <;> simp only [XF.name] at h1 <;> simp [Extern.find,h1,a,b,c,a',b',c',a2,b2,c2,XF.fn]
theorem trunc_eq (b : Nat) : Extern.MathFloor.toIntegral "math.archTrunc" .zero #[.float .f64 b] = (match Ieee.double.read b with
    | .nan s t =>
      if FloatKind.f64.format.quiet t = t then pure (.float .f64 b) else do
      let kept ← choose (.extern "math.Floor,Ceil,Trunc,RoundToEven.signallingNaN kept" 2)
      pure (.float .f64 (if kept == 1 then b else FloatKind.f64.encode (.nan s (FloatKind.f64.format.quiet t))))
    | d => pure (.float .f64 (FloatKind.f64.encode (d.integral .zero))) : Sem Value) := rfl
theorem xc_run {e : XF} {x v : V} {x' : Value} (hx : VR wr W own x x') (h : xcV e x = some v) :
    ∃ v' W',(e.fn #[x']).run P W = .ok v' W' ∧ Gl W W' ∧ VR wr W' own v v' := by
  unfold xcV at h
  split at h
  · cases hx; cases h; exact ⟨_,W,rfl,Gl.refl _,.int _ _⟩
  · cases hx with
    | fnan b hb => cases h; exact ⟨_,W,rfl,Gl.refl _,.nanw b hb⟩
  · cases hx; cases h; exact ⟨_,W,rfl,Gl.refl _,.flt _⟩
  · cases hx with
    | nanw b hb => cases h; exact ⟨_,W,rfl,Gl.refl _,.fnan b hb⟩
  · rename_i b
    cases hx; cases h;unfold truncB;show ∃ v' W', (Extern.MathFloor.toIntegral "math.archTrunc" .zero #[.float .f64 b]).run P W = .ok v' W' ∧ _;rw [trunc_eq];cases hd : Ieee.double.read b with
    | nan s t =>
      dsimp only
      by_cases hq : FloatKind.f64.format.quiet t = t
      · rw [if_pos hq]; exact ⟨_,W,rfl,Gl.refl _,.fnan b (by rw [hd]; rfl)⟩
      · rw [if_neg hq];refine ⟨.float .f64 (if (Question.extern "math.Floor,Ceil,Trunc,RoundToEven.signallingNaN kept" 2).cut (W.tape W.drawn (.extern "math.Floor,Ceil,Trunc,RoundToEven.signallingNaN kept" 2)) == 1 then b else FloatKind.f64.encode (.nan s (FloatKind.f64.format.quiet t))), { W with drawn := W.drawn + 1 }, rfl, Gl.drawn _ _, .fnan _ ?_⟩
        split
        · rw [hd]; rfl
        · exact quiet_nan s t
    | number s m p => exact ⟨_,W,rfl,Gl.refl _,.flt _⟩
    | infinity s => exact ⟨_,W,rfl,Gl.refl _,.flt _⟩
  · cases hx with
    | fnan b hb =>
      cases h;show ∃ v' W', (Extern.MathFloor.toIntegral "math.archTrunc" .zero #[.float .f64 b]).run P W = .ok v' W' ∧ _;rw [trunc_eq];cases hd : Ieee.double.read b with
      | nan s t =>
        dsimp only
        by_cases hq : FloatKind.f64.format.quiet t = t
        · rw [if_pos hq]; exact ⟨_,W,rfl,Gl.refl _,.fnan b hb⟩
        · rw [if_neg hq];refine ⟨.float .f64 (if (Question.extern "math.Floor,Ceil,Trunc,RoundToEven.signallingNaN kept" 2).cut (W.tape W.drawn (.extern "math.Floor,Ceil,Trunc,RoundToEven.signallingNaN kept" 2)) == 1 then b else FloatKind.f64.encode (.nan s (FloatKind.f64.format.quiet t))), { W with drawn := W.drawn + 1 }, rfl, Gl.drawn _ _, .fnan _ ?_⟩
          split
          · exact hb
          · exact quiet_nan s t
      | number s m p => rw [hd] at hb; simp [Ieee.Datum.isNaN] at hb
      | infinity s => rw [hd] at hb; simp [Ieee.Datum.isNaN] at hb
  · cases h
theorem xcall_run {c : Call} {ty : TypeId} {a : Act} {f : FuncId} {e : XF} {x' : Operand} (hc : c.callee = .value (.func f)) (hf : chkX P f e = true) (ha : c.args = #[x']) {v' : Value} {W' : World}
    (h : (e.fn #[a.eval x']).run P W = .ok v' W') : (do let d ← resolve a.eval c ty; invoke d.target d.args : Sem Next).run P W = .ok (.value v') W' := by
  unfold chkX at hf
  split at hf
  · rename_i fn hfn
    simp only [Bool.and_eq_true,beq_iff_eq] at hf;obtain ⟨⟨h1,h2⟩,h3⟩ := hf;have hr : resolve a.eval c ty = pure { target := .fn (.func f) #[],args := #[a.eval x'] } := by
      simp [resolve,hc,ha,Deferred.ofValue]
      rfl
    have hne : (fn.name == "runtime.NumGoroutine") = false := by rw [h1]; cases e <;> decide
    rw [hr];simp only [pure_bind,invoke,callFunc,Sem.run_bind,run_program,Result.andThen_ok,hfn,Array.append_empty];rw [if_neg (by simp [hne]),if_pos (by simpa using h3)];simp only [Sem.run_bind,xc_next h1 h2,xc_find h1]
    simp [mark,Sem.run,h]
  · cases hf
theorem ixb_rows : (Extern.allNextRows.lookup "internal/bytealg.IndexByteString").isNone = true ∧ (Extern.allNextRows.lookup "").isNone = true ∧ (Extern.allGenericRows.lookup "internal/bytealg.IndexByteString").isNone = true ∧ (Extern.allTypedRows.lookup "internal/bytealg.IndexByteString").isNone = true := by
  refine ⟨?_,?_,?_,?_⟩ <;> decide +kernel
theorem ixb_all : Extern.allRows.lookup "internal/bytealg.IndexByteString" = some Extern.BytealgIndexByte.indexByte := by kernel_rfl
theorem ixb_eq (b c : Value) : Extern.BytealgIndexByte.indexByte #[b,c] = (do
    let b ← Extern.Bytes.bytesOf b
    let c ← Extern.Bytes.asByte c
    match (List.range b.size).find? fun i => b[i]! == c with
    | some i => pure (goInt i)
    | none => pure (goInt (-1))) := rfl
theorem ixb_run {x y v : V} {x' y' : Value} (hx : VR wr W own x x') (hy : VR wr W own y y') (h : ixbV x y = some v) :
    ∃ v',(Extern.BytealgIndexByte.indexByte #[x',y']).run P W = .ok v' W ∧ VR wr W own v v' := by
  unfold ixbV at h
  split at h
  · cases hx; cases hy
    rename_i s n
    split at h
    · rename_i hn
      cases h;refine ⟨_,?_,.int _ _⟩;rw [ixb_eq];simp only [Extern.Bytes.bytesOf,Extern.Bytes.asByte,pure_bind];cases (List.range s.size).find? fun i => s[i]! == UInt8.ofNat n.toNat <;> rfl
    · cases h
  · cases h
theorem ixb_call {c : Call} {ty : TypeId} {a : Act} {f : FuncId} {x' y' : Operand} (hc : c.callee = .value (.func f)) (hf : chkXB P f = true) (ha : c.args = #[x',y']) {v' : Value} {W' : World}
    (h : (Extern.BytealgIndexByte.indexByte #[a.eval x',a.eval y']).run P W = .ok v' W') : (do let d ← resolve a.eval c ty; invoke d.target d.args : Sem Next).run P W = .ok (.value v') W' := by
  unfold chkXB at hf
  split at hf
  · rename_i fn hfn
    simp only [Bool.and_eq_true,beq_iff_eq] at hf;obtain ⟨⟨h1,h2⟩,h3⟩ := hf;have hr : resolve a.eval c ty = pure { target := .fn (.func f) #[],args := #[a.eval x',a.eval y'] } := by
      simp [resolve,hc,ha,Deferred.ofValue]
      rfl
    have hne : (fn.name == "runtime.NumGoroutine") = false := by rw [h1]; decide
    obtain ⟨r1,r2,r3,r4⟩ := ixb_rows;rw [Option.isNone_iff_eq_none] at r1 r2 r3 r4;have hn : Extern.findNext fn = none := by simp [Extern.findNext,h1,h2,r1,r2]
    have hfd : Extern.find fn = some Extern.BytealgIndexByte.indexByte := by simp [Extern.find,h1,r3,r4,ixb_all]
    rw [hr];simp only [pure_bind,invoke,callFunc,Sem.run_bind,run_program,Result.andThen_ok,hfn,Array.append_empty];rw [if_neg (by simp [hne]),if_pos (by simpa using h3)];simp only [Sem.run_bind,hn,hfd]
    simp [mark,Sem.run,h]
  · cases hf
theorem eqLeaf_run {d : Nat} {t : TypeId} {l : Leaf} (ht : leafT P t l = true) {x y : V} {x' y' : Value} (hx : VR wr W own x x') (hy : VR wr W own y y') {r : Bool} (h : eqLeaf l x y = some r) :
    (Op.equalIn (d + 1) t x' y').run P W = .ok r W := by
  unfold eqLeaf at h
  split at h
  · cases hx; cases hy; cases h;cases hu : P.underlying t with
    | none => simp [leafT,hu] at ht
    | some u => cases u <;> simp [leafT,hu] at ht; exact run_equalIn_bool' W d t _ _ hu
  · cases hx; cases hy
    split at h
    · rename_i hk; subst hk; cases h
      cases hu : P.underlying t with
      | none => simp [leafT,hu] at ht
      | some u => cases u <;> simp [leafT,hu] at ht; exact run_equalIn_int W d t _ _ _ _ hu
    · cases h
  · cases hx; cases hy; cases h;cases hu : P.underlying t with
    | none => simp [leafT,hu] at ht
    | some u => cases u <;> simp [leafT,hu] at ht; exact run_equalIn_string W d t _ _ hu
  · cases h
theorem eqLeafs_split : ∀ (z : Nat) {sig : List Leaf} {xs ys : List V} {r : Bool},eqLeafs sig xs ys = some r → z ≤ sig.length →
    ∃ p q,eqLeafs (sig.take z) (xs.take z) (ys.take z) = some p ∧ eqLeafs (sig.drop z) (xs.drop z) (ys.drop z) = some q ∧ r = (p && q)
  | 0,sig,xs,ys,r,h,_ => ⟨true,r,by simp [eqLeafs],by simpa using h,by simp⟩
  | z + 1,[],xs,ys,r,h,hz => by simp at hz
  | z + 1,l :: sig,[],ys,r,h,hz => by simp [eqLeafs] at h
  | z + 1,l :: sig,x :: xs,[],r,h,hz => by simp [eqLeafs] at h
  | z + 1,l :: sig,x :: xs,y :: ys,r,h,hz => by
    simp only [eqLeafs] at h
    split at h
    · rename_i p q hp hq
      cases h;obtain ⟨p',q',h1,h2,rfl⟩ := eqLeafs_split z hq (by simpa using hz);exact ⟨p && p',q',by simp [eqLeafs,hp,h1],by simpa using h2,by rw [Bool.and_assoc]⟩
    · cases h
theorem eqLeafs_len : ∀ {sig : List Leaf} {xs ys : List V} {r : Bool},eqLeafs sig xs ys = some r → xs.length = sig.length ∧ ys.length = sig.length
  | [],[],[],_,_ => ⟨rfl,rfl⟩
  | l :: sig,x :: xs,y :: ys,r,h => by
    simp only [eqLeafs] at h
    split at h
    · rename_i p q hp hq
      obtain ⟨h1,h2⟩ := eqLeafs_len hq;exact ⟨by simp [h1],by simp [h2]⟩
    · cases h
  | [],_ :: _,_,_,h => by simp [eqLeafs] at h
  | [],[],_ :: _,_,h => by simp [eqLeafs] at h
  | _ :: _,[],_,_,h => by simp [eqLeafs] at h
  | _ :: _,_ :: _,[],_,h => by simp [eqLeafs] at h
def asV (P : Program) (t : TypeId) (cs : List V) (x : V) : Prop := if agOf P t then x = .ag cs else cs = [x]
theorem take_as {t : TypeId} {z o : Nat} {xs : List V} (hs : chkSh P t (if agOf P t then some z else none) = true) (hz : szOf P t = some z) (h : o + z ≤ xs.length) : ∃ v,takeSh xs o (if agOf P t then some z else none) = some v ∧ asV P t ((xs.drop o).take z) v := by
  unfold asV;cases hag : agOf P t with
  | true => exact ⟨.ag ((xs.drop o).take z),by simp [takeSh,h],by simp⟩
  | false =>
    rw [hag] at hs;simp only [Bool.false_eq_true,if_false,chkSh,Bool.and_eq_true,beq_iff_eq] at hs;have hz1 : z = 1 := by have := hs.2; rw [hz] at this; cases this; rfl
    subst hz1;have hlt : o < xs.length := by omega
    refine ⟨xs[o],by simp [takeSh,List.getElem?_eq_getElem hlt],?_⟩;simp only [Bool.false_eq_true,if_false];rw [List.drop_eq_getElem_cons hlt]; rfl
theorem eqT_run : ∀ (n : Nat) {t : TypeId} {sig : List Leaf},chkEqT P n t sig = true → ∀ (d : Nat) {xs ys : List V} {x y : V} {x' y' : Value} {r : Bool},asV P t xs x → asV P t ys y → VR wr W own x x' → VR wr W own y y' → eqLeafs sig xs ys = some r →
    (Op.equalIn (d + n) t x' y').run P W = .ok r W
  | 0,t,sig,hc,_,_,_,_,_,_,_,_,_,_,_,_,_ => by simp [chkEqT] at hc
  | n + 1,t,sig,hc,d,xs,ys,x,y,x',y',r,hax,hay,hx,hy,h => by
    have hlen := eqLeafs_len h;cases hu : P.underlying t with
    | none =>
      simp only [chkEqT,hu] at hc
      split at hc
      · rename_i l; cases l <;> simp [leafT,hu] at hc
      · cases hc
    | some u =>
      cases u with
      | struct fs =>
        simp only [chkEqT,hu,Bool.and_eq_true,Bool.not_eq_true'] at hc;have hag : agOf P t = true := by unfold agOf; rw [hu]
        unfold asV at hax hay;rw [if_pos hag] at hax hay;subst hax; subst hay;cases hx with
        | ag hxl hxv =>
          cases hy with
          | ag hyl hyv =>
            rename_i xa ya
            have hf : P.fieldsOf t = fs := by unfold Program.fieldsOf; rw [hu]
            have e := run_equalIn_struct (P := P) W (d + n) t xa ya (by rw [hf]; exact hu) hc.1;rw [show d + (n + 1) = (d + n) + 1 from rfl,e,hf];have key : ∀ (fl : List Field) (o : Nat) (sg : List Leaf) (r : Bool),chkEqF P (chkEqT P n) o fl sg = true → eqLeafs sg (xs.drop o) (ys.drop o) = some r → (Op.eqFields (d + n) xa ya fl).run P W = .ok r W := by
              intro fl
              induction fl with
              | nil =>
                intro o sg r hk hr;cases sg with
                | nil =>
                  have : r = true := by
                    cases hxs : xs.drop o <;> cases hys : ys.drop o <;> rw [hxs,hys] at hr <;> simp [eqLeafs] at hr; exact hr
                  subst this; rfl
                | cons l sg => simp [chkEqF] at hk
              | cons f fl ih =>
                intro o sg r hk hr;simp only [chkEqF] at hk
                split at hk
                · rename_i z hz
                  simp only [Bool.and_eq_true,bne_iff_ne,ne_eq,beq_iff_eq,decide_eq_true_eq] at hk;obtain ⟨⟨⟨⟨⟨hn,ho⟩,hz0,hzl⟩,hsh⟩,hrec⟩,hrest⟩ := hk;obtain ⟨p,q,hp,hq,rfl⟩ := eqLeafs_split z hr hzl;have hl2 := eqLeafs_len hr;rw [List.length_drop,List.length_drop] at hl2;obtain ⟨va,ta,aa⟩ := take_as (P := P) (xs := xs) (o := o) hsh hz (by omega);obtain ⟨vb,tb,ab⟩ := take_as (P := P) (xs := ys) (o := o) hsh hz (by omega);obtain ⟨va',ra,wa⟩ := run_part (P := P) hsh hxl hxv ta;obtain ⟨vb',rb,wb⟩ := run_part (P := P) hsh hyl hyv tb;have h1 := eqT_run n hrec d aa ab wa wb hp;have ih2 := ih (o + z) _ q hrest (by rw [← List.drop_drop,← List.drop_drop]; exact hq);subst ho;simp only [Op.eqFields,hn,not_false_eq_true,ne_eq,if_true,Sem.run_bind,ra,rb,h1,Result.andThen_ok];cases p
                  · simp
                  · simpa using ih2
                · cases hk
            exact key fs.toList 0 sig r hc.2 (by simpa using h)
      | array l e =>
        simp only [chkEqT,hu] at hc
        split at hc
        · rename_i z hz
          simp only [Bool.and_eq_true,beq_iff_eq,List.all_eq_true,List.mem_range] at hc;obtain ⟨⟨hsl,hsh⟩,hrec⟩ := hc;have hag : agOf P t = true := by unfold agOf; rw [hu]
          unfold asV at hax hay;rw [if_pos hag] at hax hay;subst hax; subst hay;cases hx with
          | ag hxl hxv =>
            cases hy with
            | ag hyl hyv =>
              rename_i xa ya
              obtain ⟨i,hi,hci⟩ : ∃ i,P.info? e = some i ∧ P.cellsOf e = z := by
                unfold szOf at hz;cases hi : P.info? e with
                | none => rw [hi] at hz; cases hz
                | some i => rw [hi] at hz; exact ⟨i,rfl,by unfold Program.cellsOf; rw [hi]; simpa using hz⟩
              rw [show d + (n + 1) = (d + n) + 1 from rfl,run_equalIn_array (P := P) (w := W) (d + n) xa ya hu hi,hci,List.range_eq_range'];have key : ∀ (k s : Nat) (r : Bool),s + k = l → eqLeafs (sig.drop (s * z)) (xs.drop (s * z)) (ys.drop (s * z)) = some r → (Op.eqItems (d + n) e z xa ya (List.range' s k)).run P W = .ok r W := by
                intro k
                induction k with
                | zero =>
                  intro s r hs hr;have hs0 : s = l := by omega
                  subst hs0;rw [List.drop_of_length_le (by omega)] at hr;have : r = true := by
                    cases hxs : xs.drop (s * z) <;> cases hys : ys.drop (s * z) <;> rw [hxs,hys] at hr <;> simp [eqLeafs] at hr; exact hr
                  subst this; simp [Op.eqItems]
                | succ k ih =>
                  intro s r hs hr;have hzl : z ≤ (sig.drop (s * z)).length := by
                    rw [List.length_drop,hsl,← hs,Nat.add_mul,Nat.add_mul]; omega
                  obtain ⟨p,q,hp,hq,rfl⟩ := eqLeafs_split z hr hzl;have hl2 := eqLeafs_len hr;rw [List.length_drop,List.length_drop] at hl2;rw [List.length_drop] at hzl hl2;have hb : s * z + z ≤ sig.length := by rw [hsl,← hs,Nat.add_mul,Nat.add_mul]; omega
                  obtain ⟨va,ta,aa⟩ := take_as (P := P) (xs := xs) (o := s * z) hsh hz (by omega);obtain ⟨vb,tb,ab⟩ := take_as (P := P) (xs := ys) (o := s * z) hsh hz (by omega);obtain ⟨va',ra,wa⟩ := run_part (P := P) hsh hxl hxv ta;obtain ⟨vb',rb,wb⟩ := run_part (P := P) hsh hyl hyv tb;have h1 := eqT_run n (hrec s (by omega)) d aa ab wa wb hp;have ih2 := ih (s + 1) q (by omega) (by rw [Nat.succ_mul,← List.drop_drop,← List.drop_drop,← List.drop_drop]; exact hq);rw [List.range'_succ];simp only [Op.eqItems,Sem.run_bind,ra,rb,h1,Result.andThen_ok];cases p
                  · simp
                  · simpa using ih2
              exact key l 0 r (by omega) (by simpa using h)
        · cases hc
      | _ =>
        simp only [chkEqT,hu] at hc
        split at hc
        · rename_i l
          have hag : agOf P t = false := by unfold agOf; rw [hu]
          unfold asV at hax hay;rw [hag] at hax hay;simp only [Bool.false_eq_true,if_false] at hax hay;subst hax; subst hay;have hr : eqLeaf l x y = some r := by
            simp only [eqLeafs] at h
            split at h
            · rename_i p q hp hq
              cases hq; cases h; rw [hp]; simp
            · cases h
          exact eqLeaf_run (d := d + n) hc hx hy hr
        · cases hc
theorem eqs_run {t : TypeId} {ne : Bool} {sig : List Leaf} (hag : agOf P t = true) (hg : P.eqGuardType P.depth t = false) (hl : chkEqT P 8 t sig = true)
    {x y v : V} {x' y' : Value} {xo yo : Operand} (hx : VR wr W own x x') (hy : VR wr W own y y') (h : eqsV ne sig x y = some v) :
    ∃ v',(do eqGuard (if ne then .neq else .eql) t xo yo x' y'; binOp (if ne then .neq else .eql) t x' y' : Sem Value).run P W = .ok v' W ∧ VR wr W own v v' := by
  unfold eqsV at h
  split at h
  · rename_i xs ys
    simp only [Option.map_eq_some_iff] at h;obtain ⟨r,hr,rfl⟩ := h;have e := eqT_run (P := P) 8 hl 9992 (xs := xs) (ys := ys) (by unfold asV; rw [if_pos hag]) (by unfold asV; rw [if_pos hag]) hx hy hr;cases hx with
    | ag hxl hxv =>
      cases hy with
      | ag hyl hyv =>
        rename_i xa ya
        refine ⟨.bool (if ne then !r else r),?_,.bool _⟩;rw [Sem.run_bind,run_eqGuard_agg W _ t xo yo xa ya hg,Result.andThen_ok];cases ne
        · simp only [Bool.false_eq_true,if_false]; rw [run_eql_struct,e]; rfl
        · simp only [if_true]; rw [run_neq_struct,e]; rfl
  · cases h
end
end Go.Eng
