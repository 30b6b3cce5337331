/- Functions of this seat, run on unknown values by the rules of the small machine (no condition beyond those stated). -/
import Derived.Test.YthpbodnnbjdnlaaDoorEngCUp
import Derived.Laws.IdiomCopy
namespace Go.Eng
open Go
set_option linter.unusedSectionVars false
set_option linter.unusedVariables false
set_option linter.unusedSimpArgs false
variable [Glob]
section
variable {wr : Nat → Prop} {W : World} {own : Own} {P : Program}
theorem St.change_m {H : Heap} (s : St wr W own H) {b g' : Nat} {cs' : List V} {H' : Heap} {x' : Nat × Nat × Nat} {wr' : Nat → Prop} {W' : World} {own' : Own} (hH : ∀ x,x ≠ b → H'[x]? = H[x]?) (hb : H'[b]? = some (g',cs')) (hself : own' b g' = some x')
    (hother : ∀ x y,x ≠ b → own' x y = own x y) : ∀ b1 b2 c1 c2 cb,H'[b1]? = some (1,c1) → H'[b2]? = some (1,c2) → LiveM wr' W' own' b1 1 c1 → LiveM wr' W' own' b2 1 c2 → own' b1 0 = some (cb,0,0) → own' b2 0 = some (cb,0,0) → b1 = b2 := by
  have ne : ∀ x c,H'[x]? = some (1,c) → LiveM wr' W' own' x 1 c → x ≠ b := by
    rintro x c hx hm rfl;rw [hb] at hx; cases hx;rw [hm.2.1] at hself; cases hself
  have back : ∀ x c,x ≠ b → H'[x]? = some (1,c) → LiveM wr' W' own' x 1 c → H[x]? = some (1,c) ∧ LiveM wr W own x 1 c := by
    intro x c hxb hx hm;rw [hH x hxb] at hx;refine ⟨hx,?_⟩;rcases s.live x 1 c hx with ⟨cb,sh,N,ho,_⟩ | h | h
    · have := hm.2.1;rw [hother x 1 hxb,ho] at this; cases this
    · exact h
    · obtain ⟨_,_,_,_,_,_,ho,_⟩ := hm; rw [hother x 0 hxb,h 0] at ho; cases ho
  intro b1 b2 c1 c2 cb h1 h2 m1 m2 o1 o2;have n1 := ne _ _ h1 m1;have n2 := ne _ _ h2 m2;obtain ⟨a1,a2⟩ := back _ _ n1 h1 m1;obtain ⟨a3,a4⟩ := back _ _ n2 h2 m2;rw [hother _ _ n1] at o1;rw [hother _ _ n2] at o2;exact s.injm _ _ _ _ _ a1 a3 a2 a4 o1 o2
theorem St.changeMX {H : Heap} (s : St wr W own H) {b : Nat} {ks' vs' : List V} {cb' : Nat} {H' : Heap} (hH : ∀ x,x ≠ b → H'[x]? = H[x]?) (hb : H'[b]? = some (1,[.mpb ks' vs']))
    (hlen : H.length ≤ H'.length) {W' : World} (hio : Io W W') (hsz : W.heap.size ≤ W'.heap.size) (hsame : ∀ x,x < W.heap.size → x ≠ cb' → W'.heap[x]? = W.heap[x]?)
    (hcb : (W.heap.size ≤ cb' ∧ ∀ y,own b y = none) ∨ ∃ cs,H[b]? = some (1,cs) ∧ LiveM wr W own b 1 cs ∧ own b 0 = some (cb',0,0))
    {es : Array MapEntry} {clock : Nat} (hobj : W'.heap[cb']? = some (.map es clock)) (hm : MapR wr W own ks' vs' es.toList) :
    ∃ wr' own',Ext wr W own wr' W' own' ∧ St wr' W' own' H' ∧ own' b 0 = some (cb',0,0) ∧ ∀ x y,x ≠ b → own' x y = own x y := by
  let own' : Own := fun x y => if x = b ∧ y = 0 then some (cb',0,0) else own x y
  let wr' : Nat → Prop := fun x => wr x ∨ x = cb'
  have hcblt : cb' < W'.heap.size := by
    rcases Nat.lt_or_ge cb' W'.heap.size with h | h
    · exact h
    · simp [Array.getElem?_eq_none h] at hobj
  have hself : own' b 0 = some (cb',0,0) := by show (if _ then _ else _) = _; rw [if_pos ⟨rfl,rfl⟩]
  have hother : ∀ x y,x ≠ b → own' x y = own x y := by
    intro x y hx; show (if x = b ∧ y = 0 then _ else _) = _; rw [if_neg (fun h => hx h.1)]
  have hpos : ∀ x y,y ≠ 0 → own' x y = own x y := by
    intro x y hy; show (if x = b ∧ y = 0 then _ else _) = _; rw [if_neg (fun h => hy h.2)]
  have hnew : W.heap.size ≤ cb' ∧ (∀ y,own b y = none) → ∀ y z,own b y = some z → False := by
    rintro ⟨_,hd⟩ y z h;rw [hd y] at h; cases h
  have h1none : own b 1 = none := by
    rcases hcb with h | ⟨cs,_,m,_⟩
    · cases ho : own b 1 with
      | none => rfl
      | some z => exact (hnew h 1 z ho).elim
    · exact m.2.1
  have hle : own.le own' := by
    intro x y z hz
    by_cases hxy : x = b ∧ y = 0
    · obtain ⟨rfl,rfl⟩ := hxy;rcases hcb with h | ⟨cs,_,_,ho⟩
      · exact (hnew h 0 z hz).elim
      · rw [ho] at hz; cases hz; exact hself
    · show (if x = b ∧ y = 0 then _ else _) = _; rw [if_neg hxy]; exact hz
  have hext : Ext wr W own wr' W' own' := by
    refine ⟨hle,hsz,?_,fun x hx => .inl hx,?_,?_,hio⟩
    · intro x hx hw;rcases hw with hw | rfl
      · exact hw
      · rcases hcb with h | ⟨cs,_,_,ho⟩
        · omega
        · exact s.own_wr _ _ _ _ _ ho
    · intro x hx hno;refine hsame x hx ?_;rintro rfl;rcases hcb with h | ⟨cs,_,_,ho⟩
      · omega
      · exact hno ⟨_,_,_,_,ho⟩
    · intro x y cb sh N h
      by_cases hxy : x = b ∧ y = 0
      · obtain ⟨rfl,rfl⟩ := hxy;rw [hself] at h; cases h;rcases hcb with h | ⟨cs,_,_,ho⟩
        · exact .inr h.1
        · exact .inl ⟨_,_,_,ho⟩
      · have : own' x y = own x y := by show (if _ then _ else _) = _; rw [if_neg hxy]
        rw [this] at h; exact .inl ⟨_,_,_,h⟩
  have hgrow : Grow wr wr' W W' := Ext.grow s hext;have oldM : ∀ x c,x ≠ b → H'[x]? = some (1,c) → LiveM wr' W' own' x 1 c → H[x]? = some (1,c) ∧ LiveM wr W own x 1 c := by
    intro x c hxb hx hm;rw [hH x hxb] at hx;refine ⟨hx,?_⟩;rcases s.live x 1 c hx with ⟨cb,sh,N,ho,_⟩ | h | h
    · have := hm.2.1;rw [hother x 1 hxb,ho] at this; cases this
    · exact h
    · obtain ⟨_,_,_,_,_,_,ho,_⟩ := hm; rw [hother x 0 hxb,h 0] at ho; cases ho
  have ncb : ∀ x c,x ≠ b → H[x]? = some (1,c) → LiveM wr W own x 1 c → own x 0 ≠ some (cb',0,0) := by
    intro x c hxb hx hm ho;rcases hcb with h | ⟨cs,h1,h2,h3⟩
    · have := s.wr_lt _ (s.own_wr _ _ _ _ _ ho); omega
    · exact hxb (s.injm _ _ _ _ _ hx h1 hm h2 ho h3)
  refine ⟨wr',own',hext,⟨⟨?_,?w,s.glob.mono hgrow⟩,?_,?_,?_,?_⟩,hself,hother⟩
  case w =>
    intro cb hw;rcases hw with hw | rfl
    · exact Nat.lt_of_lt_of_le (s.wr_lt cb hw) hsz
    · exact hcblt
  · intro x gx cx hx
    by_cases hxb : x = b
    · subst hxb;rw [hb] at hx; cases hx;exact .inr (.inl ⟨rfl,by rw [hpos x 1 (by omega)]; exact h1none,ks',vs',cb',rfl,hself,es,clock,hobj,hm.mono hgrow hle⟩)
    · rw [hH x hxb] at hx;rcases s.live x gx cx hx with ⟨cb,sh,N,ho,hN2,ccs2,ty2,lo2,hi2,hheap,hsz2,hfr2,hc2⟩ | ⟨m1,m0,ks,vs,cb,hcs,ho,es2,clock2,hheap,hm2⟩ | hd
      · refine .inl ⟨cb,sh,N,by rw [hother x gx hxb]; exact ho,hN2,ccs2,ty2,lo2,hi2,?_,hsz2,hfr2,fun j c hj => by
          obtain ⟨cv,h1,h2⟩ := hc2 j c hj; exact ⟨cv,h1,h2.mono hgrow hle⟩⟩
        rw [hsame cb (s.wr_lt _ (s.own_wr _ _ _ _ _ ho)) ?_]
        · exact hheap
        · rintro rfl;rcases hcb with h | ⟨cs,h1,⟨_,_,ks3,vs3,cb3,_,ho3,es3,cl3,hh3,_⟩,h3⟩
          · have := s.wr_lt _ (s.own_wr _ _ _ _ _ ho); omega
          · rw [ho3] at h3; cases h3; rw [hheap] at hh3; cases hh3
      · subst m1;refine .inr (.inl ⟨rfl,by rw [hother x 1 hxb]; exact m0,ks,vs,cb,hcs,by rw [hother x 0 hxb]; exact ho,es2,clock2,?_,hm2.mono hgrow hle⟩);rw [hsame cb (s.wr_lt _ (s.own_wr _ _ _ _ _ ho)) ?_]
        · exact hheap
        · rintro rfl;exact ncb x cx hxb hx ⟨rfl,m0,ks,vs,cb,hcs,ho,es2,clock2,hheap,hm2⟩ ho
      · exact .inr (.inr fun g => by rw [hother x g hxb]; exact hd g)
  · intro x y gx gy cx cy cb sh N sh2 N2 hx hy hox hoy;have nb : ∀ u gu cu shu Nu,H'[u]? = some (gu,cu) → own' u gu = some (cb,shu,Nu) → u ≠ b := by
      rintro u gu cu shu Nu hu hou rfl;rw [hb] at hu; cases hu;rw [hpos u 1 (by omega),h1none] at hou; cases hou
    have n1 := nb _ _ _ _ _ hx hox;have n2 := nb _ _ _ _ _ hy hoy;rw [hH x n1] at hx; rw [hH y n2] at hy;rw [hother x gx n1] at hox; rw [hother y gy n2] at hoy;exact s.inj _ _ _ _ _ _ _ _ _ _ _ hx hy hox hoy
  · intro x y cx cy cb hx hy mx my ox oy
    by_cases hxb : x = b
    · by_cases hyb : y = b
      · rw [hxb,hyb]
      · exfalso
        obtain ⟨a1,a2⟩ := oldM y cy hyb hy my;rw [hxb,hself] at ox; cases ox;rw [hother y 0 hyb] at oy;exact ncb y cy hyb a1 a2 oy
    · obtain ⟨b1,b2⟩ := oldM x cx hxb hx mx
      by_cases hyb : y = b
      · exfalso
        rw [hyb,hself] at oy; cases oy;rw [hother x 0 hxb] at ox;exact ncb x cx hxb b1 b2 ox
      · obtain ⟨a1,a2⟩ := oldM y cy hyb hy my;rw [hother x 0 hxb] at ox; rw [hother y 0 hyb] at oy;exact s.injm _ _ _ _ _ b1 a1 b2 a2 ox oy
  · intro x gx z hz
    by_cases hxb : x = b
    · subst hxb;refine ⟨(List.getElem?_eq_some_iff.mp hb).1,fun g0 c0 h0 => ?_⟩;rw [hb] at h0; cases h0
      by_cases hgx : gx = 0
      · omega
      · rw [hpos x gx hgx] at hz;rcases hcb with h | ⟨cs,h1,_,_⟩
        · exact (hnew h _ _ hz).elim
        · exact (s.fut _ _ _ hz).2 1 cs h1
    · rw [hother x gx hxb] at hz;obtain ⟨h1,h2⟩ := s.fut _ _ _ hz;exact ⟨Nat.lt_of_lt_of_le h1 hlen,fun g0 c0 h0 => h2 g0 c0 (by rw [← hH x hxb]; exact h0)⟩
  · intro x gx cb sh N hz
    by_cases hxy : x = b ∧ gx = 0
    · obtain ⟨rfl,rfl⟩ := hxy;rw [hself] at hz; cases hz; exact .inr rfl
    · have : own' x gx = own x gx := by show (if _ then _ else _) = _; rw [if_neg hxy]
      rw [this] at hz; exact .inl (s.own_wr _ _ _ _ _ hz)
theorem St.changeM {H : Heap} (s : St wr W own H) {b : Nat} {ks' vs' : List V} {cb' : Nat} {H' : Heap} (hH : ∀ x,x ≠ b → H'[x]? = H[x]?) (hb : H'[b]? = some (1,[.mpb ks' vs']))
    (hlen : H.length ≤ H'.length) {W' : World} (hio : Io W W') (hsz : W.heap.size ≤ W'.heap.size) (hsame : ∀ x,x < W.heap.size → x ≠ cb' → W'.heap[x]? = W.heap[x]?)
    (hcb : (W.heap.size ≤ cb' ∧ ∀ y,own b y = none) ∨ ∃ cs,H[b]? = some (1,cs) ∧ LiveM wr W own b 1 cs ∧ own b 0 = some (cb',0,0))
    {es : Array MapEntry} {clock : Nat} (hobj : W'.heap[cb']? = some (.map es clock)) (hm : MapR wr W own ks' vs' es.toList) :
    ∃ wr' own',Ext wr W own wr' W' own' ∧ St wr' W' own' H' ∧ own' b 0 = some (cb',0,0) := by
  obtain ⟨wr',own',h1,h2,h3,_⟩ := s.changeMX hH hb hlen hio hsz hsame hcb hobj hm;exact ⟨wr',own',h1,h2,h3⟩
theorem St.change0X {H : Heap} (s : St wr W own H) {b g' : Nat} {cs' : List V} {cb' sh' N' : Nat} {H' : Heap} (hH : ∀ x,x ≠ b → H'[x]? = H[x]?) (hb : H'[b]? = some (g',cs'))
    (hlen : H.length ≤ H'.length) {W' : World} (hio : Io W W') (hsz : W.heap.size ≤ W'.heap.size) (hsame : ∀ x,x < W.heap.size → x ≠ cb' → W'.heap[x]? = W.heap[x]?)
    (hcb : W.heap.size ≤ cb' ∨ ∃ g cs sh N,H[b]? = some (g,cs) ∧ own b g = some (cb',sh,N))
    (hg : ∀ g x,own b g = some x → g < g' ∨ (g = g' ∧ x = (cb',sh',N')))
    {ccs : Array Value} {ty : TypeId} {lo hi : Nat} (hobj : W'.heap[cb']? = some (.cells ccs ty (lo,hi))) (hN : ccs.size = N') (hfr : ∀ i,i < N' → ¬ (lo ≤ i ∧ i < hi))
    (hsh : sh' + cs'.length ≤ N') (hcells : ∀ j c,cs'[j]? = some c → ∃ cv,ccs[sh' + j]? = some cv ∧ VR (fun x => wr x ∨ x = cb') W' own c cv) :
    ∃ wr' own',Ext wr W own wr' W' own' ∧ St wr' W' own' H' ∧ own' b g' = some (cb',sh',N') ∧ ∀ x y,x ≠ b → own' x y = own x y := by
  let own' : Own := fun x y => if x = b ∧ y = g' then some (cb',sh',N') else own x y
  let wr' : Nat → Prop := fun x => wr x ∨ x = cb'
  have hcblt : cb' < W'.heap.size := by
    rcases Nat.lt_or_ge cb' W'.heap.size with h | h
    · exact h
    · simp [Array.getElem?_eq_none h] at hobj
  have hle : own.le own' := by
    intro x y z hz;show (if x = b ∧ y = g' then _ else _) = _
    split
    · rename_i hxy; obtain ⟨rfl,rfl⟩ := hxy
      rcases hg _ _ hz with h | ⟨_,h⟩
      · omega
      · rw [h]
    · exact hz
  have hother : ∀ x y,x ≠ b → own' x y = own x y := by
    intro x y hx; show (if x = b ∧ y = g' then _ else _) = _; rw [if_neg (fun h => hx h.1)]
  have hself : own' b g' = some (cb',sh',N') := by show (if _ then _ else _) = _; rw [if_pos ⟨rfl,rfl⟩]
  have hext : Ext wr W own wr' W' own' := by
    refine ⟨hle,hsz,?_,fun x hx => .inl hx,?_,?_,hio⟩
    · intro x hx hw;rcases hw with hw | rfl
      · exact hw
      · rcases hcb with h | ⟨g,cs,sh,N,h1,h2⟩
        · omega
        · exact s.own_wr _ _ _ _ _ h2
    · intro x hx hno;refine hsame x hx ?_;rintro rfl;rcases hcb with h | ⟨g,cs,sh,N,h1,h2⟩
      · omega
      · exact hno ⟨_,_,_,_,h2⟩
    · intro x y cb sh N h
      by_cases hxy : x = b ∧ y = g'
      · obtain ⟨rfl,rfl⟩ := hxy;rw [hself] at h; cases h;rcases hcb with h | ⟨g,cs,sh,N,h1,h2⟩
        · exact .inr h
        · exact .inl ⟨_,_,_,h2⟩
      · have : own' x y = own x y := by show (if _ then _ else _) = _; rw [if_neg hxy]
        rw [this] at h; exact .inl ⟨_,_,_,h⟩
  have hgrow : Grow wr wr' W W' := Ext.grow s hext;refine ⟨wr',own',hext,⟨⟨?_,?w,s.glob.mono hgrow⟩,?_,?m,?_,?_⟩,hself,hother⟩
  case m => exact St.change_m s hH hb hself hother
  case w =>
    intro cb hw;rcases hw with hw | rfl
    · exact Nat.lt_of_lt_of_le (s.wr_lt cb hw) hsz
    · exact hcblt
  · intro x gx cx hx
    by_cases hxb : x = b
    · subst hxb;rw [hb] at hx; cases hx;exact .inl ⟨cb',sh',N',hself,hsh,ccs,ty,lo,hi,hobj,hN,hfr,fun j c hj => by
        obtain ⟨cv,h1,h2⟩ := hcells j c hj; exact ⟨cv,h1,VR.mono ⟨Nat.le_refl _,fun _ _ h => h,fun _ _ _ => rfl⟩ hle h2⟩⟩
    · rw [hH x hxb] at hx;rcases s.live x gx cx hx with ⟨cb,sh,N,ho,hN2,ccs2,ty2,lo2,hi2,hheap,hsz2,hfr2,hc2⟩ | ⟨m1,m0,ks,vs,cb,hcs,ho,es,clock,hheap,hm⟩ | hd
      case inr.inr => exact .inr (.inr fun g => by rw [hother x g hxb]; exact hd g)
      case inr.inl =>
        refine .inr (.inl ⟨m1,by rw [hother x 1 hxb]; exact m0,ks,vs,cb,hcs,by rw [hother x 0 hxb]; exact ho,es,clock,?_,hm.mono hgrow hle⟩);rw [hsame cb (s.wr_lt _ (s.own_wr _ _ _ _ _ ho)) ?_]
        · exact hheap
        · rintro rfl;rcases hcb with h | ⟨g,cs,sh0,N0,h1,h2⟩
          · have := s.wr_lt _ (s.own_wr _ _ _ _ _ ho); omega
          · obtain ⟨cb3,_,_,ho3,_,_,_,_,_,hh3,_⟩ := s.toRd.cells h1 h2;rw [ho3] at h2; cases h2; rw [hheap] at hh3; cases hh3
      refine .inl ⟨cb,sh,N,by rw [hother x gx hxb]; exact ho,hN2,ccs2,ty2,lo2,hi2,?_,hsz2,hfr2,fun j c hj => by
        obtain ⟨cv,h1,h2⟩ := hc2 j c hj; exact ⟨cv,h1,h2.mono hgrow hle⟩⟩
      rw [hsame cb (s.wr_lt _ (s.own_wr _ _ _ _ _ ho)) ?_]
      · exact hheap
      · rintro rfl;rcases hcb with h | ⟨g,cs,sh0,N0,h1,h2⟩
        · have := s.wr_lt _ (s.own_wr _ _ _ _ _ ho); omega
        · exact hxb (s.inj _ _ _ _ _ _ _ _ _ _ _ hx h1 ho h2)
  · intro x y gx gy cx cy cb sh N sh2 N2 hx hy hox hoy;have key : ∀ x gx cx sh N,H'[x]? = some (gx,cx) → x ≠ b → own' x gx = some (cb,sh,N) → cb ≠ cb' := by
      intro u gu cu shu Nu hu hub hou;rw [hother u gu hub] at hou;rw [hH u hub] at hu;intro e;rw [e] at hou;rcases hcb with h | ⟨g,cs,sh0,N0,h1,h2⟩
      · have := s.wr_lt _ (s.own_wr _ _ _ _ _ hou); omega
      · exact hub (s.inj _ _ _ _ _ _ _ _ _ _ _ hu h1 hou h2)
    by_cases hxb : x = b
    · by_cases hyb : y = b
      · rw [hxb,hyb]
      · subst hxb;rw [hb] at hx; cases hx;rw [hself] at hox; cases hox;exact absurd rfl (key y gy cy sh2 N2 hy hyb hoy)
    · by_cases hyb : y = b
      · subst hyb;rw [hb] at hy; cases hy;rw [hself] at hoy; cases hoy;exact absurd rfl (key x gx cx sh N hx hxb hox)
      · rw [hH x hxb] at hx; rw [hH y hyb] at hy;rw [hother x gx hxb] at hox; rw [hother y gy hyb] at hoy;exact s.inj _ _ _ _ _ _ _ _ _ _ _ hx hy hox hoy
  · intro x gx z hz
    by_cases hxb : x = b
    · subst hxb;refine ⟨(List.getElem?_eq_some_iff.mp hb).1,fun g0 c0 h0 => ?_⟩;rw [hb] at h0; cases h0
      by_cases hgx : gx = g'
      · omega
      · have : own' x gx = own x gx := by show (if _ then _ else _) = _; rw [if_neg (fun h => hgx h.2)]
        rw [this] at hz;rcases hg _ _ hz with h | ⟨h,_⟩ <;> omega
    · rw [hother x gx hxb] at hz;obtain ⟨h1,h2⟩ := s.fut _ _ _ hz;exact ⟨Nat.lt_of_lt_of_le h1 hlen,fun g0 c0 h0 => h2 g0 c0 (by rw [← hH x hxb]; exact h0)⟩
  · intro x gx cb sh N hz
    by_cases hxy : x = b ∧ gx = g'
    · obtain ⟨rfl,rfl⟩ := hxy;rw [hself] at hz; cases hz; exact .inr rfl
    · have : own' x gx = own x gx := by show (if _ then _ else _) = _; rw [if_neg hxy]
      rw [this] at hz; exact .inl (s.own_wr _ _ _ _ _ hz)
theorem St.change0 {H : Heap} (s : St wr W own H) {b g' : Nat} {cs' : List V} {cb' sh' N' : Nat} {H' : Heap} (hH : ∀ x,x ≠ b → H'[x]? = H[x]?) (hb : H'[b]? = some (g',cs'))
    (hlen : H.length ≤ H'.length) {W' : World} (hio : Io W W') (hsz : W.heap.size ≤ W'.heap.size) (hsame : ∀ x,x < W.heap.size → x ≠ cb' → W'.heap[x]? = W.heap[x]?)
    (hcb : W.heap.size ≤ cb' ∨ ∃ g cs sh N,H[b]? = some (g,cs) ∧ own b g = some (cb',sh,N))
    (hg : ∀ g x,own b g = some x → g < g' ∨ (g = g' ∧ x = (cb',sh',N')))
    {ccs : Array Value} {ty : TypeId} {lo hi : Nat} (hobj : W'.heap[cb']? = some (.cells ccs ty (lo,hi))) (hN : ccs.size = N') (hfr : ∀ i,i < N' → ¬ (lo ≤ i ∧ i < hi))
    (hsh : sh' + cs'.length ≤ N') (hcells : ∀ j c,cs'[j]? = some c → ∃ cv,ccs[sh' + j]? = some cv ∧ VR (fun x => wr x ∨ x = cb') W' own c cv) :
    ∃ wr' own',Ext wr W own wr' W' own' ∧ St wr' W' own' H' ∧ own' b g' = some (cb',sh',N') := by
  obtain ⟨wr',own',h1,h2,h3,_⟩ := s.change0X hH hb hlen hio hsz hsame hcb hg hobj hN hfr hsh hcells;exact ⟨wr',own',h1,h2,h3⟩
theorem St.changeX {H : Heap} (s : St wr W own H) {b g' : Nat} {cs' : List V} {cb' sh' N' : Nat} {H' : Heap} (hH : ∀ x,x ≠ b → H'[x]? = H[x]?) (hb : H'[b]? = some (g',cs'))
    (hlen : H.length ≤ H'.length) {W' : World} (hio : Io W W') (hsz : W.heap.size ≤ W'.heap.size) (hsame : ∀ x,x < W.heap.size → x ≠ cb' → W'.heap[x]? = W.heap[x]?)
    (hcb : W.heap.size ≤ cb' ∨ ∃ g cs sh N,H[b]? = some (g,cs) ∧ own b g = some (cb',sh,N))
    (hg : ∀ g x,own b g = some x → g < g' ∨ (g = g' ∧ x = (cb',sh',N')))
    {ccs : Array Value} {ty : TypeId} {lo hi : Nat} (hobj : W'.heap[cb']? = some (.cells ccs ty (lo,hi))) (hN : ccs.size = N') (hfr : ∀ i,i < N' → ¬ (lo ≤ i ∧ i < hi))
    (hsh : sh' + cs'.length ≤ N') (hcells : ∀ j c,cs'[j]? = some c → ∃ cv,ccs[sh' + j]? = some cv ∧ VR wr W own c cv) :
    ∃ wr' own',Ext wr W own wr' W' own' ∧ St wr' W' own' H' ∧ own' b g' = some (cb',sh',N') ∧ ∀ x y,x ≠ b → own' x y = own x y := by
  have hgrow : Grow wr (fun x => wr x ∨ x = cb') W W' := by
    refine ⟨hsz,?_,?_⟩
    · intro x hx hw;rcases hw with hw | rfl
      · exact hw
      · rcases hcb with h | ⟨g,cs,sh,N,h1,h2⟩
        · omega
        · exact s.own_wr _ _ _ _ _ h2
    · intro x hx hnw;refine hsame x hx ?_;rintro rfl;rcases hcb with h | ⟨g,cs,sh,N,h1,h2⟩
      · omega
      · exact hnw (s.own_wr _ _ _ _ _ h2)
  exact s.change0X hH hb hlen hio hsz hsame hcb hg hobj hN hfr hsh (fun j c hj => by obtain ⟨cv,h1,h2⟩ := hcells j c hj; exact ⟨cv,h1,h2.mono hgrow (Own.le_refl _)⟩)
theorem St.change {H : Heap} (s : St wr W own H) {b g' : Nat} {cs' : List V} {cb' sh' N' : Nat} {H' : Heap} (hH : ∀ x,x ≠ b → H'[x]? = H[x]?) (hb : H'[b]? = some (g',cs'))
    (hlen : H.length ≤ H'.length) {W' : World} (hio : Io W W') (hsz : W.heap.size ≤ W'.heap.size) (hsame : ∀ x,x < W.heap.size → x ≠ cb' → W'.heap[x]? = W.heap[x]?)
    (hcb : W.heap.size ≤ cb' ∨ ∃ g cs sh N,H[b]? = some (g,cs) ∧ own b g = some (cb',sh,N))
    (hg : ∀ g x,own b g = some x → g < g' ∨ (g = g' ∧ x = (cb',sh',N')))
    {ccs : Array Value} {ty : TypeId} {lo hi : Nat} (hobj : W'.heap[cb']? = some (.cells ccs ty (lo,hi))) (hN : ccs.size = N') (hfr : ∀ i,i < N' → ¬ (lo ≤ i ∧ i < hi))
    (hsh : sh' + cs'.length ≤ N') (hcells : ∀ j c,cs'[j]? = some c → ∃ cv,ccs[sh' + j]? = some cv ∧ VR wr W own c cv) :
    ∃ wr' own',Ext wr W own wr' W' own' ∧ St wr' W' own' H' ∧ own' b g' = some (cb',sh',N') := by
  obtain ⟨wr',own',h1,h2,h3,_⟩ := s.changeX hH hb hlen hio hsz hsame hcb hg hobj hN hfr hsh hcells;exact ⟨wr',own',h1,h2,h3⟩
theorem St.push {H : Heap} (s : St wr W own H) {cs : List V} {arr : Array Value} {ty : TypeId} (hl : cs.length ≤ arr.size)
    (hv : ∀ j c,cs[j]? = some c → VR wr W own c (arr.getD j undef)) {W' : World} (hW : ∃ n,W' = ({ W with drawn := n } : World).alloc (.cells arr ty)) :
    ∃ wr' own',Ext wr W own wr' W' own' ∧ St wr' W' own' (H ++ [(0,cs)]) ∧ own' H.length 0 = some (W.heap.size,0,arr.size) := by
  obtain ⟨n,rfl⟩ := hW;have hg : Gl W (({ W with drawn := n } : World).alloc (.cells arr ty)) := (Gl.drawn W n).trans (Gl.alloc _ _);refine s.change (b := H.length) (g' := 0) (cs' := cs) (cb' := W.heap.size) (sh' := 0) (N' := arr.size) (ccs := arr) (ty := ty) (lo := 0) (hi := 0)
    (fun x hx => ?_) (by simp) (by simp) hg.io hg.size (fun x hx _ => hg.same x hx) (.inl (Nat.le_refl _)) (fun g x h => ?_) (alloc_get _ _) rfl (fun i _ h => by omega) (by simpa using hl) (fun j c hj => ?_)
  · rcases Nat.lt_or_ge x H.length with h | h
    · rw [List.getElem?_append_left h]
    · rw [List.getElem?_eq_none h,List.getElem?_eq_none (by simp; omega)]
  · have := (s.fut _ _ _ h).1; omega
  · have hj' : j < arr.size := Nat.lt_of_lt_of_le (List.getElem?_eq_some_iff.mp hj).1 hl;refine ⟨arr.getD j undef,?_,hv j c hj⟩
    simp [Array.getD_eq_getD_getElem?,hj']
theorem boxOk_cells {x : V} (h : boxOk x = true) : x.isCell = true ∨ x.isAg = true := by cases x <;> simp_all [boxOk,V.isCell,V.isAg]
theorem box_run {t : TypeId} {H : Heap} (s : St wr W own H) {x : V} {x' : Value} (hx : VR wr W own x x') (hb : boxOk x = true) :
    (Instr.box t x').run P W = .ok (.pointer (some ⟨W.heap.size,0,none⟩)) (W.alloc (.cells x'.cells t)) ∧
    (∃ wr' own',Ext wr W own wr' (W.alloc (.cells x'.cells t)) own' ∧ St wr' (W.alloc (.cells x'.cells t)) own' (H ++ [(0,x.cells)]) ∧ VR wr' (W.alloc (.cells x'.cells t)) own' (.ptr H.length 0 0) (.pointer (some ⟨W.heap.size,0,none⟩))) := by
  obtain ⟨hsz,hcv⟩ := cells_sim hx (boxOk_cells hb);refine ⟨by simp [Instr.box,newVar,newRow],?_⟩;obtain ⟨wr',own',h1,h2,h3⟩ := s.push (ty := t) (Nat.le_of_eq hsz.symm) hcv ⟨W.drawn,rfl⟩;exact ⟨wr',own',h1,h2,.ptr h3⟩
theorem boxfr_run {t : TypeId} (hwl : ∀ cb,wr cb → cb < W.heap.size) {x : V} {x' : Value} (hx : VR wr W own x x') (hb : boxOk x = true) (hf : V.free deepN x = true) :
    (Instr.box t x').run P W = .ok (.pointer (some ⟨W.heap.size,0,none⟩)) (W.alloc (.cells x'.cells t)) ∧ VR wr (W.alloc (.cells x'.cells t)) own (.fp x) (.pointer (some ⟨W.heap.size,0,none⟩)) := by
  obtain ⟨hsz,hcv⟩ := cells_sim hx (boxOk_cells hb);refine ⟨by simp [Instr.box,newVar,newRow],?_⟩;have hg : Gl W (W.alloc (.cells x'.cells t)) := Gl.alloc _ _;obtain ⟨_,hcv0⟩ := cells_sim (VR.of_free _ hf hx) (boxOk_cells hb);refine .fp (fun j => x'.cells.getD j undef) (fun h => by have := hwl _ h; omega) (by simp) (fun j c hj => ?_) (fun j c hj => (hcv0 j c hj).gl hg);have hj' : j < x'.cells.size := by rw [hsz]; exact (List.getElem?_eq_some_iff.mp hj).1
  have e := alloc_get W (.cells x'.cells t);simp only [World.cell?,e,Nat.zero_add]
  simp [Array.getD_eq_getD_getElem?,hj']
theorem boxr_run {t : TypeId} (hwl : ∀ cb,wr cb → cb < W.heap.size) {x : V} {x' : Value} (hx : VR wr W own x x') (hb : boxOk x = true) :
    (Instr.box t x').run P W = .ok (.pointer (some ⟨W.heap.size,0,none⟩)) (W.alloc (.cells x'.cells t)) ∧ VR wr (W.alloc (.cells x'.cells t)) own (.bx x) (.pointer (some ⟨W.heap.size,0,none⟩)) := by
  obtain ⟨hsz,hcv⟩ := cells_sim hx (boxOk_cells hb);refine ⟨by simp [Instr.box,newVar,newRow],?_⟩;have hg : Gl W (W.alloc (.cells x'.cells t)) := Gl.alloc _ _;refine .bx (fun j => x'.cells.getD j undef) (fun h => by have := hwl _ h; omega) (by simp) (fun j c hj => ?_) (fun j c hj => (hcv j c hj).gl hg);have hj' : j < x'.cells.size := by rw [hsz]; exact (List.getElem?_eq_some_iff.mp hj).1
  have e := alloc_get W (.cells x'.cells t);simp only [World.cell?,e,Nat.zero_add]
  simp [Array.getD_eq_getD_getElem?,hj']
theorem chkZero_spec {t : TypeId} {zc : List V} (h : chkZero P t zc = true) : ∃ v,zeroOf P t = some v ∧ v.cells.size = zc.length ∧ ∀ j c,zc[j]? = some c → VR wr W own c (v.cells.getD j undef) := by
  unfold chkZero at h
  split at h
  · rename_i v hv
    obtain ⟨h1,h2⟩ := all2_get h;refine ⟨v,hv,by simpa using h1,fun j c hj => ?_⟩;have hj' : j < v.cells.size := by have := (List.getElem?_eq_some_iff.mp hj).1; simp at h1; omega
    rw [getD_of_some (Array.getElem?_eq_getElem hj')];exact isV0_sound (h2 j _ c (by simp [hj']) hj)
  · cases h
theorem alloc_run {t : TypeId} {zc : List V} (hz : chkZero P t zc = true) {H : Heap} (s : St wr W own H) :
    ∃ v' W',(Instr.alloc t true (.tuple #[])).run P W = .ok v' W' ∧ ∃ wr' own',Ext wr W own wr' W' own' ∧ St wr' W' own' (H ++ [(0,zc)]) ∧ VR wr' W' own' (.ptr H.length 0 0) v' := by
  obtain ⟨v,hv,hsz,hcv⟩ := chkZero_spec (wr := wr) (W := W) (own := own) hz;obtain ⟨wr',own',h1,h2,h3⟩ := s.push (ty := t) (Nat.le_of_eq hsz.symm) hcv ⟨W.drawn,rfl⟩;exact ⟨_,_,by simp [Instr.alloc,run_zeroValue' hv,newVar,newRow],wr',own',h1,h2,.ptr h3⟩
end
end Go.Eng
namespace Go.Eng
open Go
set_option linter.unusedSectionVars false
set_option linter.unusedVariables false
set_option linter.unusedSimpArgs false
variable [Glob]
section
variable {wr : Nat → Prop} {W : World} {own : Own} {P : Program}
theorem setCell_heap (W : World) (b o : Nat) (v : Value) (ccs : Array Value) (ty : TypeId) (fr : Nat × Nat) (h : W.heap[b]? = some (.cells ccs ty fr)) :
    (W.setCell ⟨b,o,none⟩ v).heap[b]? = some (.cells (ccs.setIfInBounds o v) ty fr) ∧ (∀ x,x ≠ b → (W.setCell ⟨b,o,none⟩ v).heap[x]? = W.heap[x]?) := by
  constructor
  · simp [World.setCell,Array.getElem?_modify,h]
  · intro x hx
    simp [World.setCell,Array.getElem?_modify,Ne.symm hx]
theorem setCells_io (b : Nat) : ∀ (vs : List Value) (o : Nat) (W : World),Io W (W.setCells b o vs)
  | [],o,W => Io.refl _
  | v :: r,o,W => by
    rw [World.setCells];exact Io.trans (a := W) (b := W.setCell ⟨b,o,none⟩ v) ⟨rfl,rfl,rfl⟩ (setCells_io b r (o + 1) _)
theorem setCells_heap (b : Nat) (ty : TypeId) (fr : Nat × Nat) : ∀ (vs : List Value) (o : Nat) (W : World) (ccs : Array Value),W.heap[b]? = some (.cells ccs ty fr) →
    ∃ ccs',(W.setCells b o vs).heap[b]? = some (.cells ccs' ty fr) ∧ ccs'.size = ccs.size ∧ (W.setCells b o vs).heap.size = W.heap.size ∧
      (∀ x,x ≠ b → (W.setCells b o vs).heap[x]? = W.heap[x]?) ∧ (∀ i,i < o ∨ o + vs.length ≤ i → ccs'[i]? = ccs[i]?) ∧ (∀ i v,vs[i]? = some v → o + i < ccs.size → ccs'[o + i]? = some v)
  | [],o,W,ccs,h => ⟨ccs,h,rfl,rfl,fun _ _ => rfl,fun _ _ => rfl,fun i v hv => by simp at hv⟩
  | v :: r,o,W,ccs,h => by
    obtain ⟨h1,h2⟩ := setCell_heap W b o v ccs ty fr h;obtain ⟨ccs',a1,a2,a3,a4,a5,a6⟩ := setCells_heap b ty fr r (o + 1) (W.setCell ⟨b,o,none⟩ v) _ h1;refine ⟨ccs',a1,by simpa using a2,by rw [World.setCells,a3]; simp,fun x hx => by rw [World.setCells,a4 x hx,h2 x hx],?_,?_⟩
    · intro i hi
      simp at hi
      rw [a5 i (by omega)];exact Array.getElem?_setIfInBounds_ne (by omega)
    · intro i u hu hlt;cases i with
      | zero =>
        simp at hu; subst hu
        rw [a5 (o + 0) (by omega)]
        simp at hlt
        simp [hlt]
      | succ i =>
        have := a6 i u (by simpa using hu) (by simp; omega)
        rwa [show o + 1 + i = o + (i + 1) by omega] at this
theorem oneCell_of {x : V} {x' : Value} (h : VR wr W own x x') (hx : x.isCell = true) : x'.oneCell' = true := by
  cases h <;> simp_all [V.isCell,Value.oneCell']
theorem store_row {H : Heap} (s : St wr W own H) {b g off : Nat} {cs : List V} {cb sh N : Nat} (hr : rdB H b g = some cs) (ho : own b g = some (cb,sh,N))
    {new : List V} {vs : List Value} (hlen : new.length = vs.length) (hnew : ∀ (j : Nat) (c : V) (v : Value),new[j]? = some c → vs[j]? = some v → VR wr W own c v)
    (hcell : new.all V.isCell = true) (hfit : off + new.length ≤ cs.length) :
    ∃ W',(storeCells ⟨cb,sh + off,none⟩ vs).run P W = .ok () W' ∧ ∃ wr' own',Ext wr W own wr' W' own' ∧ St wr' W' own' (H.set b (g,splice cs off new)) := by
  have hb := rdB_some hr;obtain ⟨cb2,sh2,N2,ho2,hN,ccs,ty,lo,hi,hheap,hsz,hfr,hc⟩ := s.toRd.cells hb ho;rw [ho] at ho2; cases ho2;obtain ⟨ccs',a1,a2,a3,a4,a5,a6⟩ := setCells_heap cb ty (lo,hi) vs (sh + off) W ccs hheap;have hrun : (storeCells ⟨cb,sh + off,none⟩ vs).run P W = .ok () (W.setCells cb (sh + off + 0) vs) := by
    refine run_storeCells_cells cb (sh + off) vs 0 W ?_ ?_ ?_
    · intro j hj;have : sh + off + j < ccs.size := by omega
      simp only [World.cell?,hheap]; simp [this]
    · intro j hj;have := hfr (sh + off + 0 + j) (by omega);simp only [World.frozen?,hheap]; simpa using this
    · intro v hv;obtain ⟨j,hj,rfl⟩ := List.getElem_of_mem hv;have hj' : j < new.length := by omega
      exact oneCell_of (hnew j new[j] vs[j] (by simp) (by simp)) (List.all_eq_true.mp hcell _ (List.getElem_mem hj'))
  refine ⟨_,hrun,?_⟩;simp only [Nat.add_zero];have hlt : b < H.length := (List.getElem?_eq_some_iff.mp hb).1;obtain ⟨wr',own',e1,e2,_⟩ := s.change (b := b) (g' := g) (cs' := splice cs off new) (cb' := cb) (sh' := sh) (N' := N) (H' := H.set b (g,splice cs off new)) (W' := W.setCells cb (sh + off) vs)
    (ccs := ccs') (ty := ty) (lo := lo) (hi := hi)
    (fun x hx => by rw [List.getElem?_set_ne (Ne.symm hx)]) (by simp [hlt]) (by simp) (setCells_io _ _ _ _) (Nat.le_of_eq a3.symm) (fun x _ hx => a4 x hx) (.inr ⟨g,cs,sh,N,hb,ho⟩)
    (fun g0 x0 h0 => by
      have := (s.fut _ _ _ h0).2 g cs hb;rcases Nat.lt_or_ge g0 g with h | h
      · exact .inl h
      · have : g0 = g := by omega
        subst this; rw [ho] at h0; cases h0; exact .inr ⟨rfl,rfl⟩)
    a1 (by rw [a2,hsz]) hfr (by simp [splice]; omega)
    (fun j c hj => by
      unfold splice at hj;rw [List.append_assoc] at hj;rcases Nat.lt_or_ge j off with h1 | h1
      · rw [List.getElem?_append_left (by simp; omega)] at hj;have hj' : cs[j]? = some c := by simpa [h1] using hj
        obtain ⟨cv,q1,q2⟩ := hc j c hj';exact ⟨cv,by rw [a5 _ (by omega)]; exact q1,q2⟩
      · rw [List.getElem?_append_right (by simp; omega)] at hj;have ht : (cs.take off).length = off := by simp; omega
        rw [ht] at hj;rcases Nat.lt_or_ge (j - off) new.length with h2 | h2
        · rw [List.getElem?_append_left h2] at hj;have hv : vs[j - off]? = some vs[j - off] := by simp
          refine ⟨vs[j - off],?_,hnew _ _ _ hj hv⟩;have := a6 (j - off) _ hv (by omega)
          rwa [show sh + off + (j - off) = sh + j by omega] at this
        · rw [List.getElem?_append_right h2] at hj;have hj' : cs[j]? = some c := by
            have e : off + new.length + (j - off - new.length) = j := by omega
            simpa [e] using hj
          obtain ⟨cv,q1,q2⟩ := hc j c hj';exact ⟨cv,by rw [a5 _ (by omega)]; exact q1,q2⟩)
  exact ⟨wr',own',e1,e2⟩
theorem splice_one (cs : List V) (off : Nat) (x : V) (h : off + 1 ≤ cs.length) : splice cs off [x] = cs.set off x := by
  rw [splice,List.set_eq_take_append_cons_drop,if_pos (by omega)]
  simp
theorem st_run {t : TypeId} {n : Sh} (hs : chkSh P t n = true) {H H' : Heap} (s : St wr W own H) {p x : V} {p' x' : Value} (hp : VR wr W own p p') (hx : VR wr W own x x')
    (h : stV H p x n = some H') : ∃ W',(Instr.storeAt t p' x').run P W = .ok () W' ∧ ∃ wr' own',Ext wr W own wr' W' own' ∧ St wr' W' own' H' := by
  unfold stV at h
  split at h
  · rename_i b g off
    simp only [Option.bind_eq_some_iff] at h;obtain ⟨cs,hcs,h⟩ := h
    split at h
    · rename_i hcond
      simp only [Bool.and_eq_true,decide_eq_true_eq] at hcond;cases h;cases hp with
      | ptr ho =>
        rename_i cb sh N
        have hxc : x.isCell = true ∨ x.isAg = true := by
          cases n with
          | none => left; simpa [fitsSh] using hcond.1
          | some m => right; have := hcond.1; cases x <;> simp_all [fitsSh,V.isAg]
        obtain ⟨q1,q2⟩ := cells_sim hx hxc;have hcell : x.cells.all V.isCell = true := by
          cases n with
          | none => have := hcond.1; simp only [fitsSh] at this; cases x <;> simp_all [V.cells,V.isCell]
          | some m => have := hcond.1; cases x <;> simp_all [fitsSh,V.cells]
        have hz : szOf P t = some x.cells.length := by
          cases n with
          | none => simp only [chkSh,Bool.and_eq_true,beq_iff_eq] at hs; rw [hs.2,(fits_cells hcond.1).1 rfl]; rfl
          | some m => simp only [chkSh,Bool.and_eq_true,beq_iff_eq] at hs; obtain ⟨c,rfl,hc⟩ := (fits_cells hcond.1).2 m rfl; rw [hs.2]; simp [V.cells,hc]
        obtain ⟨W',r1,wr',own',r2,r3⟩ := store_row (P := P) s hcs ho (new := x.cells) (vs := x'.cells.toList) (by simp [q1])
          (fun j c v hj hv => by
            have := q2 j c hj;have hv' : x'.cells[j]? = some v := by simpa using hv
            rwa [getD_of_some hv'] at this) hcell hcond.2
        refine ⟨W',?_,wr',own',r2,?_⟩
        · simp [Instr.storeAt,Instr.sureAddr,storeVar,run_sizeOf' hz,q1,r1]
        · cases n with
          | none =>
            have e := (fits_cells hcond.1).1 rfl;rw [e,splice_one _ _ _ (by have := hcond.2; rw [e] at this; simpa using this)] at r3;exact r3
          | some m => exact r3
    · cases h
  · cases h
theorem made_get {z : Array Value} {zc : List V} (hsz : z.size = zc.length) (hz : ∀ j c,zc[j]? = some c → VR wr W own c (z.getD j undef)) (n m : Nat) (hnm : n ≤ m) (h0 : 0 < zc.length) :
    (List.replicate n zc).flatten.length ≤ (madeCells z (m * zc.length)).size ∧
    ∀ j c,(List.replicate n zc).flatten[j]? = some c → VR wr W own c ((madeCells z (m * zc.length)).getD j undef) := by
  have hlen : (List.replicate n zc).flatten.length = n * zc.length := by simp
  refine ⟨by rw [hlen,size_madeCells]; exact Nat.mul_le_mul_right _ hnm,?_⟩;intro j c hj;have hj' : j < n * zc.length := by rw [← hlen]; exact (List.getElem?_eq_some_iff.mp hj).1
  have hjm : j < m * zc.length := Nat.lt_of_lt_of_le hj' (Nat.mul_le_mul_right _ hnm);have hmod : j % zc.length < zc.length := Nat.mod_lt _ h0;have hc : zc[j % zc.length]? = some c := by
    clear hlen hnm hjm
    induction n generalizing j with
    | zero => simp at hj'
    | succ n ih =>
      rw [List.replicate_succ,List.flatten_cons] at hj;rcases Nat.lt_or_ge j zc.length with h | h
      · rw [List.getElem?_append_left h] at hj
        rwa [Nat.mod_eq_of_lt h]
      · rw [List.getElem?_append_right h] at hj;have e := Nat.mod_eq_sub_mod h;rw [e];exact ih _ hj (by rw [Nat.succ_mul] at hj'; omega) (by rw [← e]; exact hmod)
  have := hz _ c hc;have e : (madeCells z (m * zc.length)).getD j undef = z.getD (j % zc.length) undef := by
    have hm2 : j % z.size < z.size := by rw [hsz]; exact hmod
    rw [← hsz] at hjm ⊢
    simp [madeCells,Array.getD_eq_getD_getElem?,hjm,hm2]
  rw [e]; exact this
theorem mks_run {t : TypeId} {z by_ : Nat} {ag : Bool} {zc : List V} (hel : chkEl P t z ag = true)
    (hc : (match sliceOf P t with | some e => chkZero P e zc && ((P.info? e).map (·.bytes) == some by_) && decide (zc.length = z) | none => false) = true)
    {H H' : Heap} (s : St wr W own H) {l c v : V} {l' c' : Value} (hl : VR wr W own l l') (hcp : VR wr W own c c') (h : mksV H z ag zc by_ l c = some (v,H')) :
    ∃ v' W',(Instr.makeSlice t l' c').run P W = .ok v' W' ∧ ∃ wr' own',Ext wr W own wr' W' own' ∧ St wr' W' own' H' ∧ VR wr' W' own' v v' := by
  obtain ⟨e,hu,hz,ha,hht,hz0,_⟩ := chkEl_spec hel;have hso : sliceOf P t = some e := by simp [sliceOf,hu]
  rw [hso] at hc;simp only [Bool.and_eq_true,beq_iff_eq,decide_eq_true_eq] at hc;obtain ⟨⟨hc1,hc2⟩,hc3⟩ := hc;obtain ⟨zv,hzv,hzs,hzr⟩ := chkZero_spec (wr := wr) (W := W) (own := own) hc1;cases hi : P.info? e with
  | none => simp [hi] at hc2
  | some i =>
    simp [hi] at hc2
    have hiz : i.size = z := by simp [szOf,hi] at hz; exact hz
    have hzz : i.zero = some zv := by simp [zeroOf,hi] at hzv; exact hzv
    unfold mksV at h
    split at h
    · rename_i n m
      cases hl; cases hcp
      split at h
      · rename_i hh
        cases h;obtain ⟨h1,h2,h3,h4⟩ := hh;have hr := run_make (P := P) W t e i zv hu hi hzz .i64 .i64 n m h1 h2 (by rw [hc2,Int.mul_comm]; omega) (by omega);refine ⟨_,_,hr,?_⟩;have hg := made_get (wr := wr) (W := W) (own := own) hzs hzr n.toNat m.toNat (by omega) (by omega);rw [hiz,← hc3];obtain ⟨wr',own',e1,e2,e3⟩ := s.push (ty := e) hg.1 hg.2 ⟨W.drawn,rfl⟩;refine ⟨wr',own',e1,e2,.sl e3 (by omega) (.inr (by simp)) (.inr (by rw [size_madeCells]; omega))⟩
      · cases h
    · cases h
theorem newCells_run {H : Heap} (s : Rd wr W own H) {x : V} {x' : Value} {z n : Nat} {cs : List V} (hx : VR wr W own x x') (h : newCells H x z = some (cs,n)) :
    cs.length = n * z ∧ (Builtin.lenOf x').run P W = .ok n W ∧
    ∃ vs : List Value,vs.length = cs.length ∧ (∀ (j : Nat) (c : V) (v : Value),cs[j]? = some c → vs[j]? = some v → VR wr W own c v) ∧
      ∀ W2 : World,(∀ b o v,W.cell? ⟨b,o,none⟩ = some v → W2.cell? ⟨b,o,none⟩ = some v) → (Builtin.firstCells z n x').run P W2 = .ok vs.toArray W2 := by
  unfold newCells at h
  split at h
  · rename_i xs
    split at h
    · rename_i hhd
      cases h;cases hx with
      | fzn => exact ⟨by simp,rfl,[],rfl,by simp,fun W2 _ => by simp [Builtin.firstCells]⟩
      | fz z1 cv hl hw hz hc hv =>
        rename_i blk off sp cap
        by_cases hemp : xs = []
        · subst hemp;refine ⟨by simp,rfl,[],rfl,by simp,fun W2 _ => ?_⟩
          simp [Builtin.firstCells,loadCells,loadCellsFrom]
        · obtain ⟨rfl,hnw,hbl⟩ := hw hemp;have ez := hdOk_uni hhd hz hemp;subst ez;have hflat : ∀ (ys : List V),(∀ (i : Nat) (x : V),ys[i]? = some x → x.cells.length = z1) → (ys.flatMap V.cells).length = ys.length * z1 ∧
              ∀ (j : Nat) (c : V),(ys.flatMap V.cells)[j]? = some c → ∃ i x k,ys[i]? = some x ∧ x.cells[k]? = some c ∧ j = i * z1 + k := by
            intro ys
            induction ys with
            | nil => intro _; exact ⟨by simp,fun j c h => by simp at h⟩
            | cons y r ih =>
              intro hy;have h0 := hy 0 y (by simp);obtain ⟨i1,i2⟩ := ih (fun i x hx => hy (i + 1) x (by simpa using hx));refine ⟨by simp [i1,h0,Nat.succ_mul]; omega,fun j c hj => ?_⟩;rw [List.flatMap_cons] at hj;rcases Nat.lt_or_ge j y.cells.length with h | h
              · rw [List.getElem?_append_left h] at hj;exact ⟨0,y,j,by simp,hj,by omega⟩
              · rw [List.getElem?_append_right h] at hj;obtain ⟨i,x,k,a1,a2,a3⟩ := i2 _ c hj;exact ⟨i + 1,x,k,by simpa using a1,a2,by rw [Nat.succ_mul]; omega⟩
          obtain ⟨f1,f2⟩ := hflat xs hz;have hmk : ∀ (j : Nat) (c : V),(xs.flatMap V.cells)[j]? = some c → ∃ v,W.cell? ⟨blk,off + j,none⟩ = some v ∧ VR wr W own c v := by
            intro j c hj;obtain ⟨i,x,k,a1,a2,rfl⟩ := f2 j c hj;refine ⟨cv i k,?_,(hv i x k c a1 a2).mono ⟨Nat.le_refl _,fun _ _ h => h,fun _ _ _ => rfl⟩ (fun b g x h => by simp [own0] at h)⟩;have := hc i x k c a1 a2
            rwa [Nat.add_assoc] at this
          refine ⟨f1,rfl,(List.range (xs.length * z1)).map (fun j => (W.cell? ⟨blk,off + j,none⟩).getD undef),by simp [f1],?_,?_⟩
          · intro j c v hj hvj;obtain ⟨v0,b1,b2⟩ := hmk j c hj;have hj' : j < xs.length * z1 := by rw [← f1]; exact (List.getElem?_eq_some_iff.mp hj).1
            simp [hj',b1] at hvj
            rw [← hvj]; exact b2
          · intro W2 hW2;refine load_row blk off (xs.length * z1) _ (fun j hj => ?_);have hj' : j < (xs.flatMap V.cells).length := by rw [f1]; exact hj
            obtain ⟨v0,b1,_⟩ := hmk j _ (List.getElem?_eq_getElem hj');rw [hW2 _ _ _ b1,b1]; rfl
    · cases h
  · rename_i b g off len z' ag
    simp only [Option.bind_eq_some_iff] at h;obtain ⟨old,hold,h⟩ := h
    split at h
    · rename_i hcond
      cases h;obtain ⟨rfl,hle⟩ := hcond;cases hx with
      | sl ho hl ha hN =>
        rename_i cb sh N a cap
        obtain ⟨cv,hcv⟩ := s.get hold ho;have hlen : ((old.drop off).take (n * z')).length = n * z' := by simp; omega
        have hget : ∀ j c,((old.drop off).take (n * z'))[j]? = some c → old[off + j]? = some c := by
          intro j c hj;have hj' : j < n * z' := by rw [← hlen]; exact (List.getElem?_eq_some_iff.mp hj).1
          simpa [hj'] using hj
        refine ⟨hlen,rfl,(List.range (n * z')).map (fun j => cv (off + j)),by simp; omega,?_,?_⟩
        · intro j c v hj hvj;have hj' : j < n * z' := by rw [← hlen]; exact (List.getElem?_eq_some_iff.mp hj).1
          simp [hj'] at hvj
          rw [← hvj]; exact (hcv _ c (hget j c hj)).2
        · intro W2 hW2;show (loadCells a (n * z')).run P W2 = _
          by_cases h0 : n * z' = 0
          · rw [h0]; simp [loadCells,loadCellsFrom]
          · have hcap : cap ≠ 0 := by rintro rfl; have : n = 0 := by omega
                                      simp [this] at h0
            have ea := ha.resolve_left hcap;subst ea;refine load_row cb (sh + off) (n * z') _ (fun j hj => ?_);have hj' : off + j < old.length := by omega
            have := (hcv (off + j) _ (List.getElem?_eq_getElem hj')).1;rw [show sh + off + j = sh + (off + j) by omega];exact hW2 _ _ _ this
    · cases h
  · cases h;cases hx;exact ⟨by simp,rfl,[],rfl,by simp,fun W2 _ => by simp [Builtin.firstCells]⟩
  · cases h;cases hx;exact ⟨by simp,rfl,[],rfl,by simp,fun W2 _ => by simp [Builtin.firstCells,loadCells,loadCellsFrom]⟩
  · rename_i str
    split at h
    · rename_i hz; subst hz
      cases h;cases hx;refine ⟨by simp [strCells],rfl,str.data.toList.map fun b => .int .u8 (b.toNat : Int),by simp [strCells],?_,?_⟩
      · intro j c v hj hvj;simp only [strCells,List.getElem?_map,Option.map_eq_some_iff] at hj hvj;obtain ⟨b,hb,rfl⟩ := hj;obtain ⟨b',hb',rfl⟩ := hvj;rw [hb] at hb'; cases hb';exact .int _ _
      · intro W2 _;have e : str.extract 0 str.size = str := ByteArray.extract_zero_size;simp only [Builtin.firstCells,e];show Result.ok _ _ = _
        congr 1
        apply Array.ext'
        simp
    · cases h
  · cases h
theorem app_pre {e : TypeId} {z by_ : Nat} (hz : szOf P e = some z) (hb : (P.info? e).map (·.bytes) = some by_) (hzv : (zeroOf P e).map (·.cells.size) = some z) :
    ∃ (i : TypeInfo) (zv : Value),P.info? e = some i ∧ i.size = z ∧ i.bytes = by_ ∧ i.zero = some zv ∧ zv.cells.size = z := by
  cases hi : P.info? e with
  | none => simp [hi] at hb
  | some i =>
    simp [szOf,hi] at hz
    simp [hi] at hb
    cases hq : i.zero with
    | none => simp [zeroOf,hi,hq] at hzv
    | some zv => exact ⟨i,zv,rfl,hz,hb,hq,by simpa [zeroOf,hi,hq] using hzv⟩
theorem append_grow {st xt ty e : TypeId} {i : TypeInfo} {zv : Value} (hu : P.underlying st = some (.slice e)) {d : TypeDesc} (hx : P.underlying xt = some d) (hxi : ∀ k,d ≠ .int k)
    (hi : P.info? e = some i) (hz : i.zero = some zv) {base : Option Addr} {sLen sCap n : Nat} {x' : Value} (hgt : sCap < sLen + n) (hfit : (sLen + n) * i.bytes ≤ 140737488355328) (hb0 : 0 < i.bytes)
    (hlen : (Builtin.lenOf x').run P W = .ok n W) {olds news : Array Value}
    (hold : (Builtin.firstCells i.size sLen (.slice base sLen sCap)).run P W.drew = .ok olds W.drew) (hnew : (Builtin.firstCells i.size n x').run P W.drew = .ok news W.drew) :
    (Builtin.append_ #[st,xt] ty #[.slice base sLen sCap,x']).run P W =
      .ok (.slice (some ⟨W.heap.size,0,none⟩) (sLen + n) (grownCap W (sLen + n) sCap e))
        (W.drew.alloc (.cells (olds ++ news ++ Builtin.zeroCells zv.cells (grownCap W (sLen + n) sCap e - (sLen + n))) e)) := by
  have hn : ¬ (sLen + n ≤ sCap) := by omega
  have hle : sLen + n ≤ 140737488355328 := Nat.le_trans (Nat.le_mul_of_pos_right _ hb0) hfit;have h63' : ¬ (9223372036854775807 < ((sLen : Int) + (n : Int))) := by omega
  have h48' : ¬ (281474976710656 < Builtin.nextslicecap (sLen + n) sCap * i.bytes) := by
    have := growslice_fits (need := sLen + n) (old := sCap) (bytes := i.bytes) hgt hfit; omega
  simp [Builtin.append_,run_underlying hu,run_underlying hx,sizeOf,typeInfo,zeroValue,hi,hz,hlen,hn,h63',h48',Question.forced,hnew,hold,newRow,grownCap]
theorem append_room {st xt ty e : TypeId} {i : TypeInfo} (hu : P.underlying st = some (.slice e)) {d : TypeDesc} (hx : P.underlying xt = some d) (hxi : ∀ k,d ≠ .int k)
    (hi : P.info? e = some i) {base : Option Addr} {sLen sCap n : Nat} {x' : Value} (hle : sLen + n ≤ sCap)
    (hlen : (Builtin.lenOf x').run P W = .ok n W) {news : List Value} (hnew : (Builtin.firstCells i.size n x').run P W = .ok news.toArray W) {W' : World}
    (hst : ∀ a,base = some a → (storeCells (a.add (sLen * i.size)) news).run P W = .ok () W') (hnone : base = none → W' = W) :
    (Builtin.append_ #[st,xt] ty #[.slice base sLen sCap,x']).run P W = .ok (.slice base (sLen + n) sCap) W' := by
  cases base with
  | none =>
    rw [hnone rfl]
    simp [Builtin.append_,run_underlying hu,run_underlying hx,sizeOf,typeInfo,hi,hlen,hle,hnew]
  | some a =>
    have := hst a rfl
    simp [Builtin.append_,run_underlying hu,run_underlying hx,sizeOf,typeInfo,hi,hlen,hle,hnew,this]
end
end Go.Eng
