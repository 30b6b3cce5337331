/- Functions of this seat, run on unknown values by the rules of the small machine (no condition beyond those stated). -/
import Derived.Test.YthpbodnnbjdnlaaDoorEngFUp
namespace Go.Eng
open Go
set_option linter.unusedSectionVars false
set_option linter.unusedVariables false
set_option linter.unusedSimpArgs false
variable [Glob]
section
variable {wr : Nat → Prop} {W : World} {own : Own} {P : Program}
theorem grow_sz {zv : Value} {z : Nat} (hz : zv.cells.size = z) {l : List Value} {n m : Nat} (hl : l.length = n * z) (hnm : n ≤ m) :
    (l.toArray ++ Builtin.zeroCells zv.cells (m - n)).size = m * z := by
  rw [Array.size_append,size_zeroCells,hz];simp only [List.size_toArray,hl];rw [← Nat.add_mul]; congr 1; omega
theorem app_run {st xt ty : TypeId} {z by_ : Nat} {ag : Bool} (hel : chkEl P st z ag = true) (hxi : ((P.underlying xt) matches some (.int _)) = false) (hxt : hasT P xt = true)
    (hby : (match sliceOf P st with | some e => ((P.info? e).map (·.bytes) == some by_) && decide (0 < by_) && ((zeroOf P e).map (·.cells.size) == some z) | none => false) = true)
    {H H' : Heap} (s : St wr W own H) {sv x v : V} {s' x' : Value} (hs : VR wr W own sv s') (hx : VR wr W own x x') (h : appV H sv x z ag by_ = some (v,H')) :
    ∃ v' W',(Builtin.append_ #[st,xt] ty #[s',x']).run P W = .ok v' W' ∧ ∃ wr' own',Ext wr W own wr' W' own' ∧ St wr' W' own' H' ∧ VR wr' W' own' v v' := by
  obtain ⟨e,hu,hz,ha,hht,hz0,_⟩ := chkEl_spec hel;have hso : sliceOf P st = some e := by simp [sliceOf,hu]
  rw [hso] at hby;simp only [Bool.and_eq_true,beq_iff_eq,decide_eq_true_eq] at hby;obtain ⟨i,zv,hi,hiz,hib,hzz,hzs⟩ := app_pre hz hby.1.1 hby.2;obtain ⟨d,hd⟩ := Option.isSome_iff_exists.mp (show (P.underlying xt).isSome = true from hxt);have hdi : ∀ k,d ≠ .int k := by rintro k rfl; rw [hd] at hxi; simp at hxi
  unfold appV at h;simp only [Option.bind_eq_some_iff] at h;obtain ⟨⟨cs,n⟩,hnc,h⟩ := h;obtain ⟨c1,c2,vs,c3,c4,c5⟩ := newCells_run (P := P) s.toRd hx hnc
  split at h
  · cases h
  rename_i hcell
  have hcell : cs.all V.isCell = true := by simpa using hcell
  have hnew1 := c5 W (fun _ _ _ h => h);have hnew2 := c5 W.drew (fun _ _ _ h => h);rw [← hiz] at hnew1 hnew2;have hsz : vs.length = n * z := by rw [c3,c1]
  split at h
  · -- nil
    split at h
    · rename_i hfit
      rw [← hib] at hfit
      split at h
      · rename_i hn0
        cases h; cases hs;have : n = 0 := hn0;subst this;refine ⟨_,W,append_room hu hd hdi hi (base := none) (sLen := 0) (sCap := 0) (Nat.le_refl _) c2 hnew1 (by simp) (fun _ => rfl),wr,own,Ext.refl _ _ _,s,.nils⟩
      · rename_i hn0
        cases h; cases hs;have hold : (Builtin.firstCells i.size 0 (.slice none 0 0)).run P W.drew = .ok #[] W.drew := by simp [Builtin.firstCells]
        have hr := append_grow (ty := ty) hu hd hdi hi hzz (base := none) (sLen := 0) (sCap := 0) (n := n) (x' := x') (by omega) (by simpa using hfit) (by rw [hib]; exact hby.1.2) c2 hold hnew2;refine ⟨_,_,hr,?_⟩;simp only [Nat.zero_add,Array.empty_append];have hge := grownCap_ge W n 0 e;have hN := grow_sz hzs hsz hge;obtain ⟨wr',own',e1,e2,e3⟩ := s.push (ty := e) (cs := cs) (arr := vs.toArray ++ Builtin.zeroCells zv.cells (grownCap W n 0 e - n)) (by simp; omega)
          (fun j c hj => by
            have hj' : j < vs.length := by rw [c3]; exact (List.getElem?_eq_some_iff.mp hj).1
            have := c4 j c vs[j] hj (by simp);have e : (vs.toArray ++ Builtin.zeroCells zv.cells (grownCap W n 0 e - n)).getD j undef = vs[j] := by
              apply getD_of_some; rw [Array.getElem?_append_left (by simpa using hj')]; simp
            rw [e]; exact this) ⟨W.drawn + 1,rfl⟩
        exact ⟨wr',own',e1,e2,.sl e3 hge (.inr (by simp)) (.inr (by rw [hN]; omega))⟩
    · cases h
  · rename_i b g off len z' ag'
    simp only [Option.bind_eq_some_iff] at h;obtain ⟨old,hold,h⟩ := h
    split at h
    · rename_i hcond
      obtain ⟨rfl,hle,hfit⟩ := hcond;cases h;rw [← hib] at hfit;have hb := rdB_some hold;have hblt : b < H.length := (List.getElem?_eq_some_iff.mp hb).1;have hC : LiveC wr W own b g old := by
        cases hs with
        | sl ho2 hl ha2 hN2 => exact s.toRd.cells hb ho2
      obtain ⟨cb,sh,N,ho,hN,ccs,tyb,lo,hi',hheap,hccs,hfr,hc⟩ := hC;cases hs with
      | sl ho2 hl ha2 hN2 =>
        rename_i cb2 sh2 N2 a cap
        rw [ho] at ho2; cases ho2;have hgen : ∀ g0 x0,own b g0 = some x0 → g0 < g + 1 ∨ (g0 = g + 1 ∧ False) := fun g0 x0 h0 => by
          have := (s.fut _ _ _ h0).2 g old hb; left; omega
        have holdlen : ((old.drop off).take (len * z')).length = len * z' := by simp; omega
        have hget : ∀ j c,j < len * z' → ((old.drop off).take (len * z'))[j]? = some c → old[off + j]? = some c := by
          intro j c hj' hj; simpa [hj'] using hj
        by_cases hroom : len + n ≤ cap
        · -- in place
          by_cases hcap : cap = 0
          · have hl0 : len = 0 := by omega
            have hn0 : n = 0 := by omega
            subst hcap; subst hl0; subst hn0;have hcs : cs = [] := by apply List.eq_nil_of_length_eq_zero; rw [c1]; simp
            have hvs : vs = [] := by apply List.eq_nil_of_length_eq_zero; rw [hsz]; simp
            subst hcs; subst hvs;refine ⟨_,W,append_room hu hd hdi hi (base := some a) (sLen := 0) (sCap := 0) (W' := W) (Nat.le_refl _) c2 hnew1 (fun a' _ => by simp [storeCells]) (fun _ => rfl),?_⟩;obtain ⟨wr',own',e1,e2,e3⟩ := s.change (b := b) (g' := g + 1) (cs' := []) (cb' := cb) (sh' := sh + off) (N' := N) (H' := H.set b (g + 1,(old.drop off).take (0 * z') ++ [])) (W' := W)
              (ccs := ccs) (ty := tyb) (lo := lo) (hi := hi') (fun x hx => by rw [List.getElem?_set_ne (Ne.symm hx)]) (by simp [hblt]) (by simp) (Io.refl _) (Nat.le_refl _) (fun x _ _ => rfl) (.inr ⟨g,old,sh,N,hb,ho⟩)
              (fun g0 x0 h0 => by rcases hgen g0 x0 h0 with h | h; exact .inl h; exact h.2.elim) hheap hccs hfr (by simp; omega) (fun j c hj => by simp at hj)
            exact ⟨wr',own',e1,e2,.sl e3 (Nat.le_refl _) (.inl rfl) (.inl rfl)⟩
          · have ea := ha2.resolve_left hcap;have hNc := hN2.resolve_left hcap;subst ea;obtain ⟨ccs',a1,a2,a3,a4,a5,a6⟩ := setCells_heap cb tyb (lo,hi') vs (sh + off + len * z') W ccs hheap;have hmul : len * z' + n * z' ≤ cap * z' := by rw [← Nat.add_mul]; exact Nat.mul_le_mul_right _ hroom
            have hst : (storeCells ((⟨cb,sh + off,none⟩ : Addr).add (len * i.size)) vs).run P W = .ok () (W.setCells cb (sh + off + len * z') vs) := by
              rw [hiz,add_none];have := run_storeCells_cells (P := P) cb (sh + off + len * z') vs 0 W ?_ ?_ ?_
              · simpa using this
              · intro j hj;have : sh + off + len * z' + j < ccs.size := by omega
                simp only [World.cell?,hheap]; simp [this]
              · intro j hj;have := hfr (sh + off + len * z' + 0 + j) (by omega);simp only [World.frozen?,hheap]; simpa using this
              · intro v hv;obtain ⟨j,hj,rfl⟩ := List.getElem_of_mem hv;have hj' : j < cs.length := by omega
                exact oneCell_of (c4 j cs[j] vs[j] (by simp) (by simp)) (List.all_eq_true.mp hcell _ (List.getElem_mem hj'))
            refine ⟨_,_,append_room hu hd hdi hi (base := some ⟨cb,sh + off,none⟩) (sLen := len) (sCap := cap) hroom c2 hnew1 (fun a' ha' => by cases ha'; exact hst) (fun h => by cases h),?_⟩;obtain ⟨wr',own',e1,e2,e3⟩ := s.change (b := b) (g' := g + 1) (cs' := (old.drop off).take (len * z') ++ cs) (cb' := cb) (sh' := sh + off) (N' := N)
              (H' := H.set b (g + 1,(old.drop off).take (len * z') ++ cs)) (W' := W.setCells cb (sh + off + len * z') vs)
              (ccs := ccs') (ty := tyb) (lo := lo) (hi := hi') (fun x hx => by rw [List.getElem?_set_ne (Ne.symm hx)]) (by simp [hblt]) (by simp) (setCells_io _ _ _ _) (Nat.le_of_eq a3.symm) (fun x _ hx => a4 x hx) (.inr ⟨g,old,sh,N,hb,ho⟩)
              (fun g0 x0 h0 => by rcases hgen g0 x0 h0 with h | h; exact .inl h; exact h.2.elim) a1 (by rw [a2,hccs]) hfr (by rw [List.length_append,holdlen,c1]; omega)
              (fun j c hj => by
                rcases Nat.lt_or_ge j (len * z') with h | h
                · rw [List.getElem?_append_left (by omega)] at hj;obtain ⟨cv,q1,q2⟩ := hc _ c (hget j c h hj);exact ⟨cv,by rw [a5 _ (by omega),Nat.add_assoc]; exact q1,q2⟩
                · rw [List.getElem?_append_right (by omega),holdlen] at hj;have hj' : j - len * z' < vs.length := by rw [c3]; exact (List.getElem?_eq_some_iff.mp hj).1
                  refine ⟨vs[j - len * z'],?_,c4 _ _ _ hj (by simp)⟩;have := a6 (j - len * z') vs[j - len * z'] (by simp) (by omega)
                  rwa [show sh + off + len * z' + (j - len * z') = sh + off + j by omega] at this)
            exact ⟨wr',own',e1,e2,.sl e3 hroom (.inr rfl) (.inr (by omega))⟩
        · -- a new block
          have hnc : cap < len + n := by omega
          obtain ⟨cv,hcv⟩ := s.toRd.get hold ho;have hrd : (Builtin.firstCells i.size len (.slice (some a) len cap)).run P W.drew = .ok ((List.range (len * z')).map (fun j => cv (off + j))).toArray W.drew := by
            show (loadCells a (len * i.size)).run P W.drew = _;rw [hiz]
            by_cases h0 : len * z' = 0
            · rw [h0]; simp [loadCells,loadCellsFrom]
            · have hcap : cap ≠ 0 := by rintro rfl; have : len = 0 := by omega
                                        simp [this] at h0
              have ea := ha2.resolve_left hcap;subst ea;refine load_row cb (sh + off) (len * z') _ (fun j hj => ?_);have hj' : off + j < old.length := by omega
              have := (hcv (off + j) _ (List.getElem?_eq_getElem hj')).1;rw [show sh + off + j = sh + (off + j) by omega];exact this
          have hr := append_grow (ty := ty) hu hd hdi hi hzz (base := some a) (sLen := len) (sCap := cap) (n := n) (x' := x') hnc hfit (by rw [hib]; exact hby.1.2) c2 hrd hnew2;have eapp : ((List.range (len * z')).map (fun j => cv (off + j))).toArray ++ vs.toArray = ((List.range (len * z')).map (fun j => cv (off + j)) ++ vs).toArray := by simp
          rw [eapp] at hr;refine ⟨_,_,hr,?_⟩;have hge := grownCap_ge W (len + n) cap e;have hol : ((List.range (len * z')).map (fun j => cv (off + j)) ++ vs).length = (len + n) * z' := by simp [hsz,Nat.add_mul]
          have hN3 := grow_sz hzs hol hge;have hgl : Gl W (W.drew.alloc (.cells (((List.range (len * z')).map (fun j => cv (off + j)) ++ vs).toArray ++ Builtin.zeroCells zv.cells (grownCap W (len + n) cap e - (len + n))) e)) := (Gl.drew W).trans (Gl.alloc _ _);obtain ⟨wr',own',e1,e2,e3⟩ := s.change (b := b) (g' := g + 1) (cs' := (old.drop off).take (len * z') ++ cs) (cb' := W.heap.size) (sh' := 0) (N' := grownCap W (len + n) cap e * z')
              (H' := H.set b (g + 1,(old.drop off).take (len * z') ++ cs)) (lo := 0) (hi := 0) (ty := e)
              (fun x hx => by rw [List.getElem?_set_ne (Ne.symm hx)]) (by simp [hblt]) (by simp) hgl.io hgl.size (fun x hx _ => hgl.same x hx) (.inl (Nat.le_refl _))
              (fun g0 x0 h0 => by rcases hgen g0 x0 h0 with h | h; exact .inl h; exact h.2.elim) (alloc_get W.drew _) hN3 (fun i _ h => by omega)
              (by rw [List.length_append,holdlen,c1,← Nat.add_mul]; simpa using Nat.mul_le_mul_right z' hge)
              (fun j c hj => by
                have hjl : j < ((List.range (len * z')).map (fun j => cv (off + j)) ++ vs).length := by
                  have := (List.getElem?_eq_some_iff.mp hj).1;rw [List.length_append,holdlen] at this; simp; omega
                rw [Nat.zero_add,Array.getElem?_append_left (by simpa using hjl)];simp only [List.getElem?_toArray];rcases Nat.lt_or_ge j (len * z') with h | h
                · rw [List.getElem?_append_left (by omega)] at hj;rw [List.getElem?_append_left (by simpa using h)];have := hcv _ c (hget j c h hj);exact ⟨cv (off + j),by simp [h],this.2⟩
                · rw [List.getElem?_append_right (by omega),holdlen] at hj;have hj' : j - len * z' < vs.length := by rw [c3]; exact (List.getElem?_eq_some_iff.mp hj).1
                  rw [List.getElem?_append_right (by simpa using h)];exact ⟨vs[j - len * z'],by simp,c4 _ _ _ hj (by simp)⟩)
          exact ⟨wr',own',e1,e2,.sl e3 hge (.inr (by simp)) (.inr (by simp))⟩
    · cases h
  · cases h
theorem fill_get (place : Nat → Option (Nat × Nat)) (spl : List (Nat × Nat × V)) : ∀ (parts : List (Nat × Value)) (arr : Array Value) (cs : List V) (res : V),
    cs.length = arr.size → (∀ j c,cs[j]? = some c → VR wr W own c (arr.getD j undef)) → bldV cs spl = some res →
    parts.length = spl.length → (∀ (k i : Nat) (v : Value) (off size : Nat) (x : V),parts[k]? = some (i,v) → spl[k]? = some (off,size,x) → place i = some (off,size) ∧ VR wr W own x v) →
    ∃ arr',Instr.fill place arr parts = some arr' ∧ VR wr W own res (.agg arr') := by
  induction spl with
  | nil =>
    intro parts arr cs res hl hv hb hp _;have : parts = [] := by simpa using hp
    subst this;simp only [bldV] at hb; cases hb;exact ⟨arr,rfl,.ag hl hv⟩
  | cons q r ih =>
    intro parts arr cs res hl hv hb hp hrel;obtain ⟨off,size,x⟩ := q;cases parts with
    | nil => simp at hp
    | cons p ps =>
      obtain ⟨i,v⟩ := p;obtain ⟨hpl,hx⟩ := hrel 0 i v off size x (by simp) (by simp);simp only [bldV] at hb
      split at hb
      · rename_i hcond
        obtain ⟨h1,h2,h3⟩ := hcond;have hxc : x.isCell = true ∨ x.isAg = true := by
          cases x <;> simp_all [V.cells,V.isCell,V.isAg]
        obtain ⟨q1,q2⟩ := cells_sim hx hxc;have hfold : ∀ (l : List Value) (o : Nat) (a : Array Value),o + l.length ≤ a.size →
            ∃ a',(l.zipIdx (o - off)).foldl (fun cs (p : Value × Nat) => cs.setIfInBounds (off + p.2) p.1) a = a' ∧ (off ≤ o → a'.size = a.size ∧ (∀ j,(j < o ∨ o + l.length ≤ j) → a'[j]? = a[j]?) ∧ ∀ j u,l[j]? = some u → a'[o + j]? = some u) := by
          intro l
          induction l with
          | nil => intro o a _; exact ⟨a,rfl,fun _ => ⟨rfl,fun _ _ => rfl,fun j u h => by simp at h⟩⟩
          | cons c l ihl =>
            intro o a hsz;refine ⟨_,rfl,fun hoo => ?_⟩;have hsz' : o + 1 + l.length ≤ (a.setIfInBounds o c).size := by simp at hsz ⊢; omega
            obtain ⟨a',e1,e2⟩ := ihl (o + 1) (a.setIfInBounds o c) hsz';obtain ⟨f1,f2,f3⟩ := e2 (by omega);have e : ((c :: l).zipIdx (o - off)).foldl (fun cs (p : Value × Nat) => cs.setIfInBounds (off + p.2) p.1) a = a' := by
              rw [List.zipIdx_cons,List.foldl_cons,← e1];simp only [show off + (o - off) = o by omega,show o - off + 1 = o + 1 - off by omega]
            rw [e];refine ⟨by simpa using f1,fun j hj => ?_,fun j u hu => ?_⟩
            · simp at hj
              rw [f2 j (by omega),Array.getElem?_setIfInBounds_ne (by omega)]
            · cases j with
              | zero =>
                simp at hu; subst hu
                rw [f2 (o + 0) (by omega)]
                simp at hsz
                rw [Nat.add_zero,Array.getElem?_setIfInBounds_self_of_lt (by omega)]
              | succ j =>
                have := f3 j u (by simpa using hu)
                rwa [show o + (j + 1) = o + 1 + j by omega]
        obtain ⟨a',e1,e2⟩ := hfold v.cells.toList off arr (by simp; omega);obtain ⟨f1,f2,f3⟩ := e2 (Nat.le_refl _);have hstep : Instr.fill place arr ((i,v) :: ps) = Instr.fill place a' ps := by
          have hnot : ¬ (v.cells.size ≠ size ∨ off + v.cells.size > arr.size) := by omega
          simp only [Instr.fill,hpl];rw [if_neg (by simpa using hnot)]
          congr 1
          rw [← e1];simp only [Nat.sub_self];rw [← Array.foldl_toList,Array.toList_zipIdx]
        obtain ⟨arr',g1,g2⟩ := ih ps a' (splice cs off x.cells) res (by rw [f1]; simp [splice]; omega)
          (fun j c hj => by
            unfold splice at hj;rw [List.append_assoc] at hj;rcases Nat.lt_or_ge j off with k1 | k1
            · rw [List.getElem?_append_left (by simp; omega)] at hj;have hj' : cs[j]? = some c := by simpa [k1] using hj
              have hlt : j < arr.size := by rw [← hl]; exact (List.getElem?_eq_some_iff.mp hj').1
              have := hv j c hj';rw [getD_of_some (Array.getElem?_eq_getElem hlt)] at this;rw [getD_of_some (by rw [f2 j (.inl k1)]; exact Array.getElem?_eq_getElem hlt)]; exact this
            · have ht : (cs.take off).length = off := by simp; omega
              rw [List.getElem?_append_right (by omega),ht] at hj;rcases Nat.lt_or_ge (j - off) x.cells.length with k2 | k2
              · rw [List.getElem?_append_left k2] at hj;have := q2 _ c hj;have hlt : j - off < v.cells.size := by omega
                rw [getD_of_some (Array.getElem?_eq_getElem hlt)] at this;have h3 := f3 (j - off) v.cells[j - off] (by simp [hlt]);rw [show off + (j - off) = j by omega] at h3;rw [getD_of_some h3]; exact this
              · rw [List.getElem?_append_right k2] at hj;have hj' : cs[j]? = some c := by
                  have e : off + x.cells.length + (j - off - x.cells.length) = j := by omega
                  simpa [e] using hj
                have hlt : j < arr.size := by rw [← hl]; exact (List.getElem?_eq_some_iff.mp hj').1
                have := hv j c hj';rw [getD_of_some (Array.getElem?_eq_getElem hlt)] at this;rw [getD_of_some (by rw [f2 j (.inr (by simp; omega))]; exact Array.getElem?_eq_getElem hlt)]; exact this)
          hb (by simpa using hp) (fun k i v off size x h h' => hrel (k + 1) i v off size x (by simpa using h) (by simpa using h'))
        exact ⟨arr',by rw [hstep]; exact g1,g2⟩
      · cases hb
end
end Go.Eng
namespace Go.Eng
open Go
set_option linter.unusedSectionVars false
set_option linter.unusedVariables false
set_option linter.unusedSimpArgs false
variable [Glob]
section
variable {wr : Nat → Prop} {W : World} {own : Own} {P : Program}
theorem run_mapM_list {α β : Type} (f : α → Sem β) (g : α → β) : ∀ (l : List α),(∀ a ∈ l,(f a).run P W = .ok (g a) W) → (l.mapM f).run P W = .ok (l.map g) W
  | [],_ => by simp
  | a :: l,h => by
    have h0 := h a (by simp);have ih := run_mapM_list f g l (fun b hb => h b (by simp [hb]))
    simp [List.mapM_cons,h0,ih]
theorem run_mapM_arr {α β : Type} (f : α → Sem β) (g : α → β) (a : Array α) (h : ∀ x ∈ a.toList,(f x).run P W = .ok (g x) W) : (a.mapM f).run P W = .ok (a.map g) W := by
  have := run_mapM_list f g a.toList h;rw [Array.mapM_eq_mapM_toList]
  simp [this]
  exact Array.ext' (by simp)
theorem chkParts_spec {fs : Array Field} {env : List V} {a : Act} (hG : GOk wr W) (hv : ∀ t,VR wr W own (env.getD t .un) (a.tmps.getD t undef)) :
    ∀ (ps : List (Nat × Operand)) (qs : List (Nat × Nat × Opd)),chkParts P fs ps qs = true → ps.length = qs.length ∧
      ∀ (k i : Nat) (o : Operand) (off size : Nat) (d : Opd),ps[k]? = some (i,o) → qs[k]? = some (off,size,d) →
        (∃ f,fs[i]? = some f ∧ f.offset = off ∧ szOf P f.type = some size) ∧ VR wr W own (d.ev env) (a.eval o)
  | [],[],_ => ⟨rfl,fun k i o off size d h => by simp at h⟩
  | (i,x) :: r,(off,size,d) :: s,h => by
    simp only [chkParts,Bool.and_eq_true] at h;obtain ⟨⟨h1,h2⟩,h3⟩ := h;obtain ⟨g1,g2⟩ := chkParts_spec hG hv r s h3;refine ⟨by simp [g1],fun k i' o' off' size' d' hk hk' => ?_⟩;cases k with
    | zero =>
      simp at hk hk'
      obtain ⟨rfl,rfl⟩ := hk;obtain ⟨rfl,rfl,rfl⟩ := hk';refine ⟨?_,opd_sim hG hv h2⟩
      split at h1
      · rename_i f hf
        simp only [Bool.and_eq_true,beq_iff_eq] at h1;exact ⟨f,hf,h1.1,h1.2⟩
      · cases h1
    | succ k => exact g2 k i' o' off' size' d' (by simpa using hk) (by simpa using hk')
  | [],_ :: _,h => by simp [chkParts] at h
  | _ :: _,[],h => by simp [chkParts] at h
theorem bld_run {t : TypeId} {fs : Array Field} {zero : List V} {parts : Array (Nat × Operand)} {ps : List (Nat × Nat × Opd)} (hz : chkZero P t zero = true) (hu : P.underlying t = some (.struct fs))
    (hfs : fs.all (fun f => (szOf P f.type).isSome) = true) (hp : chkParts P fs parts.toList ps = true) (hG : GOk wr W) {env : List V} {a : Act} (hv : ∀ t,VR wr W own (env.getD t .un) (a.tmps.getD t undef)) {v : V}
    (h : bldV zero (ps.map fun p => (p.1,p.2.1,p.2.2.ev env)) = some v) : ∃ v',(Instr.build t (parts.map fun (i,x) => (i,a.eval x))).run P W = .ok v' W ∧ VR wr W own v v' := by
  obtain ⟨zv,hzv,hzs,hzr⟩ := chkZero_spec (wr := wr) (W := W) (own := own) hz;obtain ⟨c1,c2⟩ := chkParts_spec (P := P) hG hv _ _ hp;have hm : (fs.mapM fun f => (do pure (f.offset,← sizeOf f.type) : Sem (Nat × Nat))).run P W = .ok (fs.map fun f => (f.offset,(szOf P f.type).getD 0)) W := by
    refine run_mapM_arr _ _ fs (fun f hf => ?_);have := Array.all_eq_true_iff_forall_mem.mp hfs f (by simpa using hf);obtain ⟨z,hz⟩ := Option.isSome_iff_exists.mp this
    simp [run_sizeOf' hz,hz]
  obtain ⟨arr',e1,e2⟩ := fill_get (wr := wr) (W := W) (own := own) ((fs.map fun f => (f.offset,(szOf P f.type).getD 0))[·]?) (ps.map fun p => (p.1,p.2.1,p.2.2.ev env))
    (parts.map fun (i,x) => (i,a.eval x)).toList zv.cells zero v hzs.symm hzr h (by simpa using c1) (fun k i u off size x hk hk' => by
      simp only [Array.toList_map,List.getElem?_map,Option.map_eq_some_iff] at hk hk';obtain ⟨⟨i0,o⟩,hk,he⟩ := hk;obtain ⟨⟨off0,size0,d⟩,hk',he'⟩ := hk'
      simp at he he'
      obtain ⟨rfl,rfl⟩ := he;obtain ⟨rfl,rfl,rfl⟩ := he';obtain ⟨⟨f,f1,f2,f3⟩,f4⟩ := c2 k i0 o off0 size0 d hk hk';exact ⟨by simp [f1,f2,f3],f4⟩)
  refine ⟨.agg arr',?_,e2⟩;simp only [Instr.build,Sem.run_bind,run_zeroValue' hzv,Result.andThen_ok,run_underlying hu,hm,e1]
  rfl
theorem chkPartsA_spec {z : Nat} {env : List V} {a : Act} (hG : GOk wr W) (hv : ∀ t,VR wr W own (env.getD t .un) (a.tmps.getD t undef)) :
    ∀ (ps : List (Nat × Operand)) (qs : List (Nat × Nat × Opd)),chkPartsA z ps qs = true → ps.length = qs.length ∧
      ∀ (k i : Nat) (o : Operand) (off size : Nat) (d : Opd),ps[k]? = some (i,o) → qs[k]? = some (off,size,d) → (off = i * z ∧ size = z) ∧ VR wr W own (d.ev env) (a.eval o)
  | [],[],_ => ⟨rfl,fun k i o off size d h => by simp at h⟩
  | (i,x) :: r,(off,size,d) :: s,h => by
    simp only [chkPartsA,Bool.and_eq_true,beq_iff_eq] at h;obtain ⟨⟨h1,h2⟩,h3⟩ := h;obtain ⟨g1,g2⟩ := chkPartsA_spec hG hv r s h3;refine ⟨by simp [g1],fun k i' o' off' size' d' hk hk' => ?_⟩;cases k with
    | zero =>
      simp at hk hk'
      obtain ⟨rfl,rfl⟩ := hk;obtain ⟨rfl,rfl,rfl⟩ := hk';exact ⟨h1,opd_sim hG hv h2⟩
    | succ k => exact g2 k i' o' off' size' d' (by simpa using hk) (by simpa using hk')
  | [],_ :: _,h => by simp [chkPartsA] at h
  | _ :: _,[],h => by simp [chkPartsA] at h
theorem bldA_run {t e : TypeId} {l z : Nat} {zero : List V} {parts : Array (Nat × Operand)} {ps : List (Nat × Nat × Opd)} (hz : chkZero P t zero = true) (hu : P.underlying t = some (.array l e))
    (hsz : szOf P e = some z) (hp : chkPartsA z parts.toList ps = true) (hG : GOk wr W) {env : List V} {a : Act} (hv : ∀ t,VR wr W own (env.getD t .un) (a.tmps.getD t undef)) {v : V}
    (h : bldV zero (ps.map fun p => (p.1,p.2.1,p.2.2.ev env)) = some v) : ∃ v',(Instr.build t (parts.map fun (i,x) => (i,a.eval x))).run P W = .ok v' W ∧ VR wr W own v v' := by
  obtain ⟨zv,hzv,hzs,hzr⟩ := chkZero_spec (wr := wr) (W := W) (own := own) hz;obtain ⟨c1,c2⟩ := chkPartsA_spec hG hv _ _ hp;obtain ⟨arr',e1,e2⟩ := fill_get (wr := wr) (W := W) (own := own) (fun i => some (i * z,z)) (ps.map fun p => (p.1,p.2.1,p.2.2.ev env))
    (parts.map fun (i,x) => (i,a.eval x)).toList zv.cells zero v hzs.symm hzr h (by simpa using c1) (fun k i u off size x hk hk' => by
      simp only [Array.toList_map,List.getElem?_map,Option.map_eq_some_iff] at hk hk';obtain ⟨⟨i0,o⟩,hk,he⟩ := hk;obtain ⟨⟨off0,size0,d⟩,hk',he'⟩ := hk'
      simp at he he'
      obtain ⟨rfl,rfl⟩ := he;obtain ⟨rfl,rfl,rfl⟩ := he';obtain ⟨⟨f1,f2⟩,f4⟩ := c2 k i0 o off0 size0 d hk hk';exact ⟨by simp [f1,f2],f4⟩)
  refine ⟨.agg arr',?_,e2⟩;simp only [Instr.build,Sem.run_bind,run_zeroValue' hzv,Result.andThen_ok,run_underlying hu,run_sizeOf' hsz,e1]
  rfl
theorem flat_set {z : Nat} : ∀ (xs : List V) (i : Nat) (v : V),(∀ x ∈ xs,x.cells.length = z) → v.cells.length = z → i < xs.length → (xs.set i v).flatMap V.cells = splice (xs.flatMap V.cells) (i * z) v.cells
  | [],i,v,_,_,h => by simp at h
  | x :: r,0,v,hz,hv,_ => by
    have := hz x (by simp)
    simp [splice,hv,← this]
  | x :: r,i + 1,v,hz,hv,h => by
    have hx := hz x (by simp);have ih := flat_set r i v (fun y hy => hz y (by simp [hy])) hv (by simpa using h);have e1 : (i + 1) * z = x.cells.length + i * z := by rw [hx,Nat.succ_mul]; omega
    have t1 : (x.cells ++ r.flatMap V.cells).take (x.cells.length + i * z) = x.cells ++ (r.flatMap V.cells).take (i * z) := by
      rw [List.take_append,List.take_of_length_le (by omega)]; congr 2; omega
    have t2 : (x.cells ++ r.flatMap V.cells).drop (x.cells.length + i * z + v.cells.length) = (r.flatMap V.cells).drop (i * z + v.cells.length) := by
      rw [List.drop_append,List.drop_of_length_le (by omega),List.nil_append]; congr 1; omega
    simp only [List.set_cons_succ,List.flatMap_cons,ih,splice,e1,t1,t2,List.append_assoc]
theorem flat_len {z : Nat} : ∀ (xs : List V),(∀ x ∈ xs,x.cells.length = z) → (xs.flatMap V.cells).length = xs.length * z
  | [],_ => by simp
  | x :: r,h => by
    have ih := flat_len r (fun y hy => h y (by simp [hy]));rw [List.flatMap_cons,List.length_append,ih,h x (by simp),List.length_cons,Nat.succ_mul]; omega
theorem flat_get {z : Nat} : ∀ (xs : List V),(∀ x ∈ xs,x.cells.length = z) → ∀ (i : Nat) (x : V) (j : Nat) (c : V),xs[i]? = some x → x.cells[j]? = some c → (xs.flatMap V.cells)[i * z + j]? = some c
  | [],_,i,x,j,c,h,_ => by simp at h
  | y :: r,hz,0,x,j,c,h,h' => by
    simp at h; subst h
    have : j < y.cells.length := (List.getElem?_eq_some_iff.mp h').1;rw [List.flatMap_cons,List.getElem?_append_left (by omega)]; simpa using h'
  | y :: r,hz,i + 1,x,j,c,h,h' => by
    have hy := hz y (by simp);have ih := flat_get r (fun q hq => hz q (by simp [hq])) i x j c (by simpa using h) h';have e : (i + 1) * z + j = y.cells.length + (i * z + j) := by rw [hy,Nat.succ_mul]; omega
    rw [List.flatMap_cons,e,List.getElem?_append_right (by omega)]
    simpa using ih
theorem setParts_spec {z : Nat} : ∀ (ps : List (Nat × V)) (xs : List V),(∀ x ∈ xs,x.cells.length = z) → (∀ p ∈ ps,p.2.cells.length = z ∧ p.2.cells.all V.isCell = true ∧ p.1 < xs.length) →
    (∀ x ∈ setParts xs ps,x.cells.length = z) ∧ (setParts xs ps).length = xs.length ∧ bldV (xs.flatMap V.cells) (ps.map fun p => (p.1 * z,z,p.2)) = some (.ag ((setParts xs ps).flatMap V.cells))
  | [],xs,hz,_ => ⟨hz,rfl,rfl⟩
  | (i,v) :: r,xs,hz,hp => by
    obtain ⟨h1,h2,h3⟩ := hp (i,v) (by simp);have hz' : ∀ x ∈ xs.set i v,x.cells.length = z := by
      intro x hx;rcases List.mem_or_eq_of_mem_set hx with h | h
      · exact hz x h
      · rw [h]; exact h1
    obtain ⟨a,b,c⟩ := setParts_spec r (xs.set i v) hz' (fun p hp' => by
      have := hp p (by simp [hp']); simpa using this)
    refine ⟨a,by simpa [setParts] using b,?_⟩;have hfit : i * z + z ≤ (xs.flatMap V.cells).length := by
      rw [flat_len xs hz,← Nat.succ_mul]; exact Nat.mul_le_mul_right _ h3
    simp only [List.map_cons,bldV,setParts];rw [if_pos ⟨h1,h2,hfit⟩,← flat_set xs i v hz h1 h3];exact c
theorem rep_flat {n : Nat} {x : V} : (List.replicate n x).flatMap V.cells = (List.replicate n x.cells).flatten := by
  simp [List.flatMap]
theorem bsl_run {t : TypeId} {z n : Nat} {ag fr : Bool} {zero : V} {parts : Array (Nat × Operand)} {ps : List (Nat × Opd)} (hel : chkEl P t z ag = true)
    (hzz : (match sliceOf P t with | some e => chkZero P e zero.cells | none => false) = true) (hps : all2 (fun p q => p.1 == q.1 && chkOpd p.2 q.2) parts.toList ps = true) (hsz : n * z ≤ 16777216)
    {env : List V} {a : Act} (hv : ∀ t,VR wr W own (env.getD t .un) (a.tmps.getD t undef)) {H H' : Heap} (s : Rd wr W own H) (s2 : fr = false → St wr W own H) {v : V}
    (h : bslV H z ag n zero (ps.map fun p => (p.1,p.2.ev env)) fr = some (v,H')) :
    ∃ v' W',(Instr.buildSlice t n (parts.map fun (i,x) => (i,a.eval x))).run P W = .ok v' W' ∧
      ((fr = true → Gl W W' ∧ VR wr W' own v v' ∧ H' = H) ∧ (fr = false → ∃ wr' own',Ext wr W own wr' W' own' ∧ St wr' W' own' H' ∧ VR wr' W' own' v v')) := by
  obtain ⟨e,hu,hze,ha,hht,hz0,_⟩ := chkEl_spec hel;have hso : sliceOf P t = some e := by simp [sliceOf,hu]
  rw [hso] at hzz;unfold bslV at h
  split at h
  case isFalse => cases h
  rename_i hcond
  simp only [Bool.and_eq_true,List.all_eq_true,okEl,beq_iff_eq,decide_eq_true_eq,Bool.or_eq_true,Bool.not_eq_true'] at hcond;obtain ⟨⟨hcz,hcag⟩,hcp⟩ := hcond;obtain ⟨q1,q2⟩ := all2_get hps;have key : ∀ own2 : Own,(∀ (k i : Nat) (o : Operand) (d : Opd),parts.toList[k]? = some (i,o) → ps[k]? = some (i,d) → VR wr W own2 (d.ev env) (a.eval o)) →
      ∃ arr',(Instr.buildSlice t n (parts.map fun (i,x) => (i,a.eval x))).run P W = .ok (.slice (some ⟨W.heap.size,0,none⟩) n n) (W.alloc (.cells arr' e)) ∧
        VR wr W own2 (.ag ((setParts (List.replicate n zero) (ps.map fun p => (p.1,p.2.ev env))).flatMap V.cells)) (.agg arr') := by
    intro own2 hrel;obtain ⟨zv,hzv,hzs,hzr⟩ := chkZero_spec (wr := wr) (W := W) (own := own2) hzz;obtain ⟨s1,s2,s3⟩ := setParts_spec (z := z) (ps.map fun p => (p.1,p.2.ev env)) (List.replicate n zero) (fun x hx => by rw [(List.mem_replicate.mp hx).2]; exact hcz)
      (fun p hp => by have := hcp p hp; exact ⟨this.1.1.1.1,by simpa using this.1.1.2,by simpa using this.1.2⟩)
    have hg := made_get (wr := wr) (W := W) (own := own2) hzs hzr n n (Nat.le_refl _) (by omega);rw [hcz] at hg;obtain ⟨arr',e1,e2⟩ := fill_get (wr := wr) (W := W) (own := own2) (fun i => some (i * z,z)) ((ps.map fun p => (p.1,p.2.ev env)).map fun p => (p.1 * z,z,p.2))
      (parts.map fun (i,x) => (i,a.eval x)).toList (madeCells zv.cells (n * z)) ((List.replicate n zero).flatMap V.cells) _
      (by rw [size_madeCells,rep_flat]; simp [hcz]) (by rw [rep_flat]; exact hg.2) s3 (by simpa using q1) (fun k i u off size x hk hk' => by
        simp only [Array.toList_map,List.map_map,List.getElem?_map,Option.map_eq_some_iff] at hk hk';obtain ⟨⟨i0,o⟩,hk,he⟩ := hk;obtain ⟨⟨i1,d⟩,hk',he'⟩ := hk'
        simp at he he'
        obtain ⟨rfl,rfl⟩ := he;obtain ⟨rfl,rfl,rfl⟩ := he';have := q2 k _ _ hk hk';simp only [Bool.and_eq_true,beq_iff_eq] at this;obtain ⟨t1,t2⟩ := this;subst t1;exact ⟨rfl,hrel k _ o d hk hk'⟩)
    refine ⟨arr',?_,e2⟩;have hnot : ¬ (n * z > 16777216) := by omega
    have hfill : ∀ c : Array Value,c = madeCells zv.cells (n * z) → Instr.fill (fun i => some (i * z,z)) c (parts.map fun (i,x) => (i,a.eval x)).toList = some arr' := by
      rintro c rfl; exact e1
    by_cases hn : n * z = 0
    · have := hfill #[] (by simp [madeCells,hn]);simp only [Instr.buildSlice,Sem.run_bind,run_underlying hu,Result.andThen_ok,run_sizeOf' hze];rw [if_neg (by simpa using hnot)];simp only [hn,↓reduceIte,Sem.run_bind,Sem.run_pure,Result.andThen_ok,Array.range_zero',Array.map_empty,this,newRow,run_newObj]
      rfl
    · have := hfill ((Array.range (n * z)).map (zv.cells[· % zv.cells.size]!)) rfl;simp only [Instr.buildSlice,Sem.run_bind,run_underlying hu,Result.andThen_ok,run_sizeOf' hze];rw [if_neg (by simpa using hnot)];simp only [hn,↓reduceIte,Sem.run_bind,Sem.run_pure,Result.andThen_ok,run_zeroValue' hzv,this,newRow,run_newObj]
      rfl
  obtain ⟨s1,s2,s3⟩ := setParts_spec (z := z) (ps.map fun p => (p.1,p.2.ev env)) (List.replicate n zero) (fun x hx => by rw [(List.mem_replicate.mp hx).2]; exact hcz)
      (fun p hp => by have := hcp p hp; exact ⟨this.1.1.1.1,by simpa using this.1.1.2,by simpa using this.1.2⟩)
  have hrel : ∀ (k i : Nat) (o : Operand) (d : Opd),parts.toList[k]? = some (i,o) → ps[k]? = some (i,d) → VR wr W own (d.ev env) (a.eval o) := by
    intro k i o d hk hk';have := q2 k _ _ hk hk';simp only [Bool.and_eq_true] at this;exact opd_sim s.glob hv this.2
  have hxl : (setParts (List.replicate n zero) (ps.map fun p => (p.1,p.2.ev env))).length = n := by rw [s2]; simp
  cases fr with
  | true =>
    simp at h
    obtain ⟨rfl,rfl⟩ := h;obtain ⟨arr',e1,e2⟩ := key own0 (fun k i o d hk hk' => by
      have hf := (hcp (i,d.ev env) (by simp only [List.mem_map]; exact ⟨(i,d),List.mem_of_getElem? hk',rfl⟩)).2;exact VR.of_free _ (by simpa using hf) (hrel k i o d hk hk'))
    refine ⟨_,_,e1,fun _ => ⟨Gl.alloc _ _,?_,rfl⟩,fun h => by cases h⟩;cases e2 with
    | ag hl hvv =>
      have q : VR wr (W.alloc (.cells arr' e)) own (.fz (setParts (List.replicate n zero) (ps.map fun p => (p.1,p.2.ev env)))) (.slice (some ⟨W.heap.size,0,none⟩) (setParts (List.replicate n zero) (ps.map fun p => (p.1,p.2.ev env))).length n) := by
        refine .fz z (fun i j => arr'.getD (i * z + j) undef) (by omega) (fun _ => ⟨rfl,fun hw => by have := s.wr_lt _ hw; omega,by simp⟩) (fun i x hx => s1 x (List.mem_of_getElem? hx)) (fun i x j c hx hj => ?_) (fun i x j c hx hj => ?_)
        · have hf := flat_get _ s1 i x j c hx hj;have hlt : i * z + j < arr'.size := by rw [← hl]; exact (List.getElem?_eq_some_iff.mp hf).1
          have e0 := alloc_get W (.cells arr' e);simp only [World.cell?,e0,Nat.zero_add]
          simp [Array.getD_eq_getD_getElem?,hlt]
        · exact (hvv _ c (flat_get _ s1 i x j c hx hj)).gl (Gl.alloc _ _)
      rwa [hxl] at q
  | false =>
    simp at h
    obtain ⟨rfl,rfl⟩ := h;obtain ⟨arr',e1,e2⟩ := key own hrel;refine ⟨_,_,e1,(fun h => by cases h),fun _ => ?_⟩;cases e2 with
    | ag hl hvv =>
      obtain ⟨wr',own',f1,f2,f3⟩ := (s2 rfl).push (ty := e) (Nat.le_of_eq hl) hvv ⟨W.drawn,rfl⟩;refine ⟨wr',own',f1,f2,.sl f3 (Nat.le_refl _) (.inr (by simp)) (.inr ?_)⟩;rw [← hl,flat_len _ s1,hxl]; omega
theorem omap_spec {α β : Type} {f : α → Option β} : ∀ {l : List α} {r : List β},omap f l = some r → l.length = r.length ∧ ∀ (j : Nat) a,l[j]? = some a → ∃ b,r[j]? = some b ∧ f a = some b
  | [],r,h => by simp [omap] at h; subst h; exact ⟨rfl,fun j a h => by simp at h⟩
  | a :: l,r,h => by
    simp only [omap] at h
    split at h
    · rename_i b r' hb hr
      cases h;obtain ⟨h1,h2⟩ := omap_spec hr;refine ⟨by simp [h1],fun j x hx => ?_⟩;cases j with
      | zero => simp at hx; subst hx; exact ⟨b,by simp,hb⟩
      | succ j => simpa using h2 j x (by simpa using hx)
    · cases h
theorem fold_push (l : List UInt8) : ∀ (s : ByteArray),(l.map fun b => ((b.toNat : Nat) : Int)).foldl (fun r n => r.push (UInt8.ofNat n.toNat)) s = ⟨s.data ++ l.toArray⟩ := by
  induction l with
  | nil => intro s; simp
  | cons b l ih =>
    intro s;rw [List.map_cons,List.foldl_cons,ih]
    simp [ByteArray.push]
theorem VR.int_eq {k : IntKind} {n : Int} {v : Value} (h : VR wr W own (.int k n) v) : v = .int k n := by cases h; rfl
theorem b2s_run {src dst : TypeId} (hs : isU8 P src = true) (hd : P.underlying dst = some .string) {H : Heap} (s : Rd wr W own H) {x v : V} {x' : Value} (hx : VR wr W own x x') (h : b2sV H x = some v) :
    ∃ v',(convert src dst x').run P W = .ok v' W ∧ VR wr W own v v' := by
  unfold isU8 at hs
  split at hs
  case h_2 => cases hs
  rename_i e he
  have hu := sliceOf_eq he;simp only [Bool.and_eq_true,beq_iff_eq] at hs;have he8 : P.underlying e = some (.int .u8) := by
    cases hq : P.underlying e with
    | none => simp [hq] at hs
    | some d => cases d <;> simp [hq] at hs; rename_i k; cases k <;> simp at hs; rfl
  have main : ∀ (cs : List V) (n : Nat) (l : List UInt8),newCells H x 1 = some (cs,n) → omap byteOf cs = some l → ∀ a m cap,x' = .slice (some a) m cap →
      ∃ v',(convert src dst x').run P W = .ok v' W ∧ VR wr W own (.str ⟨l.toArray⟩) v' := by
    intro cs n l h1 h2 a m cap hxe;obtain ⟨c1,c2,vs,c3,c4,c5⟩ := newCells_run (P := P) s hx h1;obtain ⟨o1,o2⟩ := omap_spec h2;have hm : m = n := by subst hxe; simp [Builtin.lenOf] at c2; exact c2
    subst hm;subst hxe;have hvs : vs = (l.map fun b => ((b.toNat : Nat) : Int)).map (Value.int .u8) := by
      apply List.ext_getElem?;intro j;rcases Nat.lt_or_ge j cs.length with hj | hj
      · obtain ⟨b,hb,hf⟩ := o2 j cs[j] (List.getElem?_eq_getElem hj);have hv : vs[j]? = some vs[j] := List.getElem?_eq_getElem (by omega);have hr := c4 j cs[j] vs[j] (List.getElem?_eq_getElem hj) hv;have : ∃ n : Int,cs[j] = .int .u8 n ∧ 0 ≤ n ∧ n < 256 ∧ b = UInt8.ofNat n.toNat := by
          unfold byteOf at hf
          split at hf
          · rename_i n hn
            split at hf
            · rename_i h01; cases hf; exact ⟨n,hn,h01.1,h01.2,rfl⟩
            · cases hf
          · cases hf
        obtain ⟨n,hn,n0,n1,rfl⟩ := this;rw [hn] at hr;rw [hv,hr.int_eq]
        simp [hb]; omega
      · rw [List.getElem?_eq_none (by omega),List.getElem?_eq_none (by simp; omega)]
    have hl := c5 W (fun _ _ _ h => h);have hl' : (loadCells a m).run P W = .ok vs.toArray W := by simpa [Builtin.firstCells] using hl
    rw [hvs] at hl';have := run_bytesToString (P := P) W a m cap _ hl';rw [fold_push] at this;refine ⟨_,?_,.str _⟩;rw [run_convert_bytes_string W src dst e _ _ _ hu he8 hd,this]
    simp
  unfold b2sV at h
  split at h
  · cases h;cases hx;refine ⟨_,?_,.str _⟩;rw [run_convert_bytes_string W src dst e _ _ _ hu he8 hd]
    rfl
  · simp only [Option.bind_eq_some_iff,Option.map_eq_some_iff] at h;obtain ⟨⟨cs,n⟩,h1,l,h2,rfl⟩ := h;cases hx with
    | fzn =>
      simp [newCells,hdOk] at h1
      obtain ⟨rfl,rfl⟩ := h1
      simp [omap] at h2
      subst h2;refine ⟨_,?_,.str _⟩;rw [run_convert_bytes_string W src dst e _ _ _ hu he8 hd]
      rfl
    | fz => exact main cs n l h1 h2 _ _ _ rfl
  · simp only [Option.bind_eq_some_iff,Option.map_eq_some_iff] at h;obtain ⟨⟨cs,n⟩,h1,l,h2,rfl⟩ := h;cases hx with
    | sl => exact main cs n l h1 h2 _ _ _ rfl
  · cases h
theorem idxp_run {t e : TypeId} {l z : Nat} {n : Sh} (hu : P.underlying t = some (.array l e)) (hz : szOf P e = some z) (hs : chkSh P e n = true) {x i v : V} {x' i' : Value} (hx : VR wr W own x x') (hi : VR wr W own i i')
    (h : idxpV x i l z n = some v) : ∃ v',(Instr.indexAt t x' i').run P W = .ok v' W ∧ VR wr W own v v' := by
  unfold idxpV at h
  split at h
  · rename_i cs k m
    cases hi
    split at h
    · rename_i hn
      simp only [Option.bind_eq_some_iff] at h;obtain ⟨y,hy,h⟩ := h
      split at h
      case isFalse => cases h
      rename_i hag0
      cases h;cases hx with
      | fp cv hw hlt hc hv =>
        rename_i blk off
        have key : ∀ j c,y.cells[j]? = some c → cs[m.toNat * z + j]? = some c := by
          intro j c hj;cases n with
          | none =>
            simp only [takeSh] at hy;have hna : y.isAg = false := by simpa using hag0
            have hyc : y.cells = [y] := by cases y <;> first | rfl | cases hna
            rw [hyc] at hj;cases j with
            | zero => simp at hj; subst hj; simpa using hy
            | succ j => simp at hj
          | some q =>
            simp only [takeSh] at hy
            split at hy
            · cases hy;simp only [V.cells] at hj;have hjq : j < q := by have := (List.getElem?_eq_some_iff.mp hj).1; simp at this; omega
              rw [List.getElem?_take_of_lt hjq,List.getElem?_drop] at hj;exact hj
            · cases hy
        refine ⟨.pointer (some ⟨blk,off + m.toNat * z,none⟩),?_,.fp (fun j => cv (m.toNat * z + j)) hw hlt (fun j c hj => ?_) (fun j c hj => hv _ c (key j c hj))⟩
        · simp [Instr.indexAt,Instr.sureAddr,asIntOf,run_underlying hu,hn,run_sizeOf' hz,add_none]
        · have := hc _ c (key j c hj)
          rwa [Nat.add_assoc]
    · cases h
  · rename_i b g off k m
    cases hi
    split at h
    · rename_i hn
      cases h;cases hx with
      | ptr ho =>
        rename_i cb sh N
        refine ⟨.pointer (some ⟨cb,sh + off + m.toNat * z,none⟩),?_,by rw [Nat.add_assoc]; exact .ptr ho⟩
        simp [Instr.indexAt,Instr.sureAddr,asIntOf,run_underlying hu,hn,run_sizeOf' hz,add_none]
    · cases h
  · cases h
theorem mnx_run {mx : Bool} {x y v : V} {x' y' : Value} {ts : Array TypeId} {ty : TypeId} (hx : VR wr W own x x') (hy : VR wr W own y y') (h : mnxV mx x y = some v) :
    ∃ v',(if mx then Builtin.max_ ts ty #[x',y'] else Builtin.min_ ts ty #[x',y']).run P W = .ok v' W ∧ VR wr W own v v' := by
  unfold mnxV at h
  split at h
  · rename_i k a k' b
    cases h; cases hx; cases hy;cases mx with
    | true => exact ⟨.int k (if a < b then b else a),by simp [Builtin.max_,Builtin.max2],by simp only [if_true]; exact .int _ _⟩
    | false => exact ⟨.int k (if b < a then b else a),by simp [Builtin.min_,Builtin.min2],by simp only [Bool.false_eq_true,if_false]; exact .int _ _⟩
  · cases h
theorem clr_run {t ty e : TypeId} {z : Nat} {zc : List V} (hu : P.underlying t = some (.slice e)) (hz : szOf P e = some z) (hzc : chkZero P e zc = true) (h0 : 0 < z) (hl : zc.length = z)
    {H H' : Heap} (s : St wr W own H) {x v : V} {x' : Value} (hx : VR wr W own x x') (h : clrV H x z zc = some (v,H')) :
    ∃ v' W',(Builtin.clear_ #[t] ty #[x']).run P W = .ok v' W' ∧ ∃ wr' own',Ext wr W own wr' W' own' ∧ St wr' W' own' H' ∧ VR wr' W' own' v v' := by
  unfold clrV at h
  split at h
  · cases h;cases hx;exact ⟨.tuple #[],W,by simp [Builtin.clear_,run_underlying hu],wr,own,Ext.refl _ _ _,s,.tup rfl (fun j c h => by simp at h)⟩
  · rename_i b g off len z' ag
    simp only [Option.bind_eq_some_iff] at h;obtain ⟨cs,hcs,h⟩ := h
    split at h
    · rename_i hc
      cases h;obtain ⟨rfl,_,hcell,hlen,hfit⟩ := hc;cases hx with
      | sl ho hlc ha hN =>
        rename_i cb sh N a cap
        have hcap : cap ≠ 0 := by omega
        have hea := ha.resolve_left hcap;subst hea;obtain ⟨zv,hzv,hzs,hzr⟩ := chkZero_spec (wr := wr) (W := W) (own := own) hzc;obtain ⟨m1,m2⟩ := made_get (wr := wr) (W := W) (own := own) hzs hzr len len (Nat.le_refl _) (by omega);have hze : Builtin.zeroCells zv.cells len = madeCells zv.cells (len * zc.length) := by
          unfold Builtin.zeroCells madeCells; rw [hzs]
        have hfl : (List.replicate len zc).flatten.length = len * z' := by simp [hl]
        obtain ⟨W',r1,wr',own',r2,r3⟩ := store_row (P := P) s hcs ho (new := (List.replicate len zc).flatten) (vs := (Builtin.zeroCells zv.cells len).toList)
          (by rw [hze,hfl]; simp only [Array.length_toList,size_madeCells]; rw [hl]) (fun j c v hj hv => by
            have := m2 j c hj;rw [hze] at hv;have hv' : (madeCells zv.cells (len * zc.length))[j]? = some v := by simpa using hv
            rwa [getD_of_some hv'] at this) (by
            rw [List.all_eq_true];intro c hcm;obtain ⟨l,hl1,hl2⟩ := List.mem_flatten.mp hcm;obtain ⟨_,rfl⟩ := List.mem_replicate.mp hl1;exact List.all_eq_true.mp hcell c hl2) (by rw [hfl]; exact hfit)
        refine ⟨.tuple #[],W',?_,wr',own',r2,r3,.tup rfl (fun j c h => by simp at h)⟩;obtain ⟨k,rfl⟩ : ∃ k,len = k + 1 := ⟨len - 1,by omega⟩
        simp [Builtin.clear_,run_underlying hu,run_zeroValue' hzv,r1]
    · cases h
  · cases h
end
end Go.Eng
