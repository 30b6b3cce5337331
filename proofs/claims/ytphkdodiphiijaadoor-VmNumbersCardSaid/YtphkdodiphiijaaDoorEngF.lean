/- Operations that make or change memory (no condition beyond those stated). -/
import Derived.Test.YtphkdodiphiijaaDoorEngE
namespace Go.Eng
open Go
set_option linter.unusedSectionVars false
set_option linter.unusedVariables false
set_option linter.unusedSimpArgs false
variable [Glob]

section
variable {wr : Nat → Prop} {W : World} {own : Own} {P : Program}

theorem St.change_m {H : Heap} (s : St wr W own H) {b g' : Nat} {cs' : List V} {H' : Heap} {x' : Nat × Nat × Nat} {wr' : Nat → Prop} {W' : World} {own' : Own} (hH : ∀ x, x ≠ b → H'[x]? = H[x]?) (hb : H'[b]? = some (g', cs')) (hself : own' b g' = some x')
    (hother : ∀ x y, x ≠ b → own' x y = own x y) : ∀ b1 b2 c1 c2 cb, H'[b1]? = some (1, c1) → H'[b2]? = some (1, c2) → LiveM wr' W' own' b1 1 c1 → LiveM wr' W' own' b2 1 c2 → own' b1 0 = some (cb, 0, 0) → own' b2 0 = some (cb, 0, 0) → b1 = b2 := by
  have ne : ∀ x c, H'[x]? = some (1, c) → LiveM wr' W' own' x 1 c → x ≠ b := by
    rintro x c hx hm rfl
    rw [hb] at hx; cases hx
    rw [hm.2.1] at hself; cases hself
  have back : ∀ x c, x ≠ b → H'[x]? = some (1, c) → LiveM wr' W' own' x 1 c → H[x]? = some (1, c) ∧ LiveM wr W own x 1 c := by
    intro x c hxb hx hm
    rw [hH x hxb] at hx
    refine ⟨hx, ?_⟩
    rcases s.live x 1 c hx with ⟨cb, sh, N, ho, _⟩ | h
    · have := hm.2.1
      rw [hother x 1 hxb, ho] at this; cases this
    · exact h
  intro b1 b2 c1 c2 cb h1 h2 m1 m2 o1 o2
  have n1 := ne _ _ h1 m1
  have n2 := ne _ _ h2 m2
  obtain ⟨a1, a2⟩ := back _ _ n1 h1 m1
  obtain ⟨a3, a4⟩ := back _ _ n2 h2 m2
  rw [hother _ _ n1] at o1
  rw [hother _ _ n2] at o2
  exact s.injm _ _ _ _ _ a1 a3 a2 a4 o1 o2
/-- a map, new or changed -/
theorem St.changeM {H : Heap} (s : St wr W own H) {b : Nat} {ks' vs' : List V} {cb' : Nat} {H' : Heap} (hH : ∀ x, x ≠ b → H'[x]? = H[x]?) (hb : H'[b]? = some (1, [.mpb ks' vs']))
    (hlen : H.length ≤ H'.length) {W' : World} (hio : Io W W') (hsz : W.heap.size ≤ W'.heap.size) (hsame : ∀ x, x < W.heap.size → x ≠ cb' → W'.heap[x]? = W.heap[x]?)
    (hcb : (W.heap.size ≤ cb' ∧ b = H.length) ∨ ∃ cs, H[b]? = some (1, cs) ∧ LiveM wr W own b 1 cs ∧ own b 0 = some (cb', 0, 0))
    {es : Array MapEntry} {clock : Nat} (hobj : W'.heap[cb']? = some (.map es clock)) (hm : MapR wr W own ks' vs' es.toList) :
    ∃ wr' own', Ext wr W own wr' W' own' ∧ St wr' W' own' H' ∧ own' b 0 = some (cb', 0, 0) := by
  let own' : Own := fun x y => if x = b ∧ y = 0 then some (cb', 0, 0) else own x y
  let wr' : Nat → Prop := fun x => wr x ∨ x = cb'
  have hcblt : cb' < W'.heap.size := by
    rcases Nat.lt_or_ge cb' W'.heap.size with h | h
    · exact h
    · simp [Array.getElem?_eq_none h] at hobj
  have hself : own' b 0 = some (cb', 0, 0) := by show (if _ then _ else _) = _; rw [if_pos ⟨rfl, rfl⟩]
  have hother : ∀ x y, x ≠ b → own' x y = own x y := by
    intro x y hx; show (if x = b ∧ y = 0 then _ else _) = _; rw [if_neg (fun h => hx h.1)]
  have hpos : ∀ x y, y ≠ 0 → own' x y = own x y := by
    intro x y hy; show (if x = b ∧ y = 0 then _ else _) = _; rw [if_neg (fun h => hy h.2)]
  have hnew : W.heap.size ≤ cb' ∧ b = H.length → ∀ y z, own b y = some z → False := by
    rintro ⟨_, rfl⟩ y z h
    have := (s.fut _ _ _ h).1; omega
  have h1none : own b 1 = none := by
    rcases hcb with h | ⟨cs, _, m, _⟩
    · cases ho : own b 1 with
      | none => rfl
      | some z => exact (hnew h 1 z ho).elim
    · exact m.2.1
  have hle : own.le own' := by
    intro x y z hz
    by_cases hxy : x = b ∧ y = 0
    · obtain ⟨rfl, rfl⟩ := hxy
      rcases hcb with h | ⟨cs, _, _, ho⟩
      · exact (hnew h 0 z hz).elim
      · rw [ho] at hz; cases hz; exact hself
    · show (if x = b ∧ y = 0 then _ else _) = _; rw [if_neg hxy]; exact hz
  have hext : Ext wr W own wr' W' own' := by
    refine ⟨hle, hsz, ?_, fun x hx => .inl hx, ?_, ?_, hio⟩
    · intro x hx hw
      rcases hw with hw | rfl
      · exact hw
      · rcases hcb with h | ⟨cs, _, _, ho⟩
        · omega
        · exact s.own_wr _ _ _ _ _ ho
    · intro x hx hno
      refine hsame x hx ?_
      rintro rfl
      rcases hcb with h | ⟨cs, _, _, ho⟩
      · omega
      · exact hno ⟨_, _, _, _, ho⟩
    · rintro cb ⟨x, y, sh, N, h⟩
      by_cases hxy : x = b ∧ y = 0
      · obtain ⟨rfl, rfl⟩ := hxy
        rw [hself] at h; cases h
        rcases hcb with h | ⟨cs, _, _, ho⟩
        · exact .inr h.1
        · exact .inl ⟨_, _, _, _, ho⟩
      · have : own' x y = own x y := by show (if _ then _ else _) = _; rw [if_neg hxy]
        rw [this] at h; exact .inl ⟨_, _, _, _, h⟩
  have hgrow : Grow wr wr' W W' := Ext.grow s hext
  have oldM : ∀ x c, x ≠ b → H'[x]? = some (1, c) → LiveM wr' W' own' x 1 c → H[x]? = some (1, c) ∧ LiveM wr W own x 1 c := by
    intro x c hxb hx hm
    rw [hH x hxb] at hx
    refine ⟨hx, ?_⟩
    rcases s.live x 1 c hx with ⟨cb, sh, N, ho, _⟩ | h
    · have := hm.2.1
      rw [hother x 1 hxb, ho] at this; cases this
    · exact h
  have ncb : ∀ x c, x ≠ b → H[x]? = some (1, c) → LiveM wr W own x 1 c → own x 0 ≠ some (cb', 0, 0) := by
    intro x c hxb hx hm ho
    rcases hcb with h | ⟨cs, h1, h2, h3⟩
    · have := s.wr_lt _ (s.own_wr _ _ _ _ _ ho); omega
    · exact hxb (s.injm _ _ _ _ _ hx h1 hm h2 ho h3)
  refine ⟨wr', own', hext, ⟨⟨?_, ?w, s.glob.mono hgrow⟩, ?_, ?_, ?_, ?_⟩, hself⟩
  case w =>
    intro cb hw
    rcases hw with hw | rfl
    · exact Nat.lt_of_lt_of_le (s.wr_lt cb hw) hsz
    · exact hcblt
  · intro x gx cx hx
    by_cases hxb : x = b
    · subst hxb
      rw [hb] at hx; cases hx
      exact .inr ⟨rfl, by rw [hpos x 1 (by omega)]; exact h1none, ks', vs', cb', rfl, hself, es, clock, hobj, hm.mono hgrow hle⟩
    · rw [hH x hxb] at hx
      rcases s.live x gx cx hx with ⟨cb, sh, N, ho, hN2, ccs2, ty2, lo2, hi2, hheap, hsz2, hfr2, hc2⟩ | ⟨m1, m0, ks, vs, cb, hcs, ho, es2, clock2, hheap, hm2⟩
      · refine .inl ⟨cb, sh, N, by rw [hother x gx hxb]; exact ho, hN2, ccs2, ty2, lo2, hi2, ?_, hsz2, hfr2, fun j c hj => by
          obtain ⟨cv, h1, h2⟩ := hc2 j c hj; exact ⟨cv, h1, h2.mono hgrow hle⟩⟩
        rw [hsame cb (s.wr_lt _ (s.own_wr _ _ _ _ _ ho)) ?_]
        · exact hheap
        · rintro rfl
          rcases hcb with h | ⟨cs, h1, ⟨_, _, ks3, vs3, cb3, _, ho3, es3, cl3, hh3, _⟩, h3⟩
          · have := s.wr_lt _ (s.own_wr _ _ _ _ _ ho); omega
          · rw [ho3] at h3; cases h3; rw [hheap] at hh3; cases hh3
      · subst m1
        refine .inr ⟨rfl, by rw [hother x 1 hxb]; exact m0, ks, vs, cb, hcs, by rw [hother x 0 hxb]; exact ho, es2, clock2, ?_, hm2.mono hgrow hle⟩
        rw [hsame cb (s.wr_lt _ (s.own_wr _ _ _ _ _ ho)) ?_]
        · exact hheap
        · rintro rfl
          exact ncb x cx hxb hx ⟨rfl, m0, ks, vs, cb, hcs, ho, es2, clock2, hheap, hm2⟩ ho
  · intro x y gx gy cx cy cb sh N sh2 N2 hx hy hox hoy
    have nb : ∀ u gu cu shu Nu, H'[u]? = some (gu, cu) → own' u gu = some (cb, shu, Nu) → u ≠ b := by
      rintro u gu cu shu Nu hu hou rfl
      rw [hb] at hu; cases hu
      rw [hpos u 1 (by omega), h1none] at hou; cases hou
    have n1 := nb _ _ _ _ _ hx hox
    have n2 := nb _ _ _ _ _ hy hoy
    rw [hH x n1] at hx; rw [hH y n2] at hy
    rw [hother x gx n1] at hox; rw [hother y gy n2] at hoy
    exact s.inj _ _ _ _ _ _ _ _ _ _ _ hx hy hox hoy
  · intro x y cx cy cb hx hy mx my ox oy
    by_cases hxb : x = b
    · by_cases hyb : y = b
      · rw [hxb, hyb]
      · exfalso
        obtain ⟨a1, a2⟩ := oldM y cy hyb hy my
        rw [hxb, hself] at ox; cases ox
        rw [hother y 0 hyb] at oy
        exact ncb y cy hyb a1 a2 oy
    · obtain ⟨b1, b2⟩ := oldM x cx hxb hx mx
      by_cases hyb : y = b
      · exfalso
        rw [hyb, hself] at oy; cases oy
        rw [hother x 0 hxb] at ox
        exact ncb x cx hxb b1 b2 ox
      · obtain ⟨a1, a2⟩ := oldM y cy hyb hy my
        rw [hother x 0 hxb] at ox; rw [hother y 0 hyb] at oy
        exact s.injm _ _ _ _ _ b1 a1 b2 a2 ox oy
  · intro x gx z hz
    by_cases hxb : x = b
    · subst hxb
      refine ⟨(List.getElem?_eq_some_iff.mp hb).1, fun g0 c0 h0 => ?_⟩
      rw [hb] at h0; cases h0
      by_cases hgx : gx = 0
      · omega
      · rw [hpos x gx hgx] at hz
        rcases hcb with h | ⟨cs, h1, _, _⟩
        · exact (hnew h _ _ hz).elim
        · exact (s.fut _ _ _ hz).2 1 cs h1
    · rw [hother x gx hxb] at hz
      obtain ⟨h1, h2⟩ := s.fut _ _ _ hz
      exact ⟨Nat.lt_of_lt_of_le h1 hlen, fun g0 c0 h0 => h2 g0 c0 (by rw [← hH x hxb]; exact h0)⟩
  · intro x gx cb sh N hz
    by_cases hxy : x = b ∧ gx = 0
    · obtain ⟨rfl, rfl⟩ := hxy
      rw [hself] at hz; cases hz; exact .inr rfl
    · have : own' x gx = own x gx := by show (if _ then _ else _) = _; rw [if_neg hxy]
      rw [this] at hz; exact .inl (s.own_wr _ _ _ _ _ hz)

theorem St.change0 {H : Heap} (s : St wr W own H) {b g' : Nat} {cs' : List V} {cb' sh' N' : Nat} {H' : Heap} (hH : ∀ x, x ≠ b → H'[x]? = H[x]?) (hb : H'[b]? = some (g', cs'))
    (hlen : H.length ≤ H'.length) {W' : World} (hio : Io W W') (hsz : W.heap.size ≤ W'.heap.size) (hsame : ∀ x, x < W.heap.size → x ≠ cb' → W'.heap[x]? = W.heap[x]?)
    (hcb : W.heap.size ≤ cb' ∨ ∃ g cs sh N, H[b]? = some (g, cs) ∧ own b g = some (cb', sh, N))
    (hg : ∀ g x, own b g = some x → g < g' ∨ (g = g' ∧ x = (cb', sh', N')))
    {ccs : Array Value} {ty : TypeId} {lo hi : Nat} (hobj : W'.heap[cb']? = some (.cells ccs ty (lo, hi))) (hN : ccs.size = N') (hfr : ∀ i, i < N' → ¬ (lo ≤ i ∧ i < hi))
    (hsh : sh' + cs'.length ≤ N') (hcells : ∀ j c, cs'[j]? = some c → ∃ cv, ccs[sh' + j]? = some cv ∧ VR (fun x => wr x ∨ x = cb') W' own c cv) :
    ∃ wr' own', Ext wr W own wr' W' own' ∧ St wr' W' own' H' ∧ own' b g' = some (cb', sh', N') := by
  let own' : Own := fun x y => if x = b ∧ y = g' then some (cb', sh', N') else own x y
  let wr' : Nat → Prop := fun x => wr x ∨ x = cb'
  have hcblt : cb' < W'.heap.size := by
    rcases Nat.lt_or_ge cb' W'.heap.size with h | h
    · exact h
    · simp [Array.getElem?_eq_none h] at hobj
  have hle : own.le own' := by
    intro x y z hz
    show (if x = b ∧ y = g' then _ else _) = _
    split
    · rename_i hxy; obtain ⟨rfl, rfl⟩ := hxy
      rcases hg _ _ hz with h | ⟨_, h⟩
      · omega
      · rw [h]
    · exact hz
  have hother : ∀ x y, x ≠ b → own' x y = own x y := by
    intro x y hx; show (if x = b ∧ y = g' then _ else _) = _; rw [if_neg (fun h => hx h.1)]
  have hself : own' b g' = some (cb', sh', N') := by show (if _ then _ else _) = _; rw [if_pos ⟨rfl, rfl⟩]
  have hext : Ext wr W own wr' W' own' := by
    refine ⟨hle, hsz, ?_, fun x hx => .inl hx, ?_, ?_, hio⟩
    · intro x hx hw
      rcases hw with hw | rfl
      · exact hw
      · rcases hcb with h | ⟨g, cs, sh, N, h1, h2⟩
        · omega
        · exact s.own_wr _ _ _ _ _ h2
    · intro x hx hno
      refine hsame x hx ?_
      rintro rfl
      rcases hcb with h | ⟨g, cs, sh, N, h1, h2⟩
      · omega
      · exact hno ⟨_, _, _, _, h2⟩
    · rintro cb ⟨x, y, sh, N, h⟩
      by_cases hxy : x = b ∧ y = g'
      · obtain ⟨rfl, rfl⟩ := hxy
        rw [hself] at h; cases h
        rcases hcb with h | ⟨g, cs, sh, N, h1, h2⟩
        · exact .inr h
        · exact .inl ⟨_, _, _, _, h2⟩
      · have : own' x y = own x y := by show (if _ then _ else _) = _; rw [if_neg hxy]
        rw [this] at h; exact .inl ⟨_, _, _, _, h⟩
  have hgrow : Grow wr wr' W W' := Ext.grow s hext
  refine ⟨wr', own', hext, ⟨⟨?_, ?w, s.glob.mono hgrow⟩, ?_, ?m, ?_, ?_⟩, hself⟩
  case m => exact St.change_m s hH hb hself hother
  case w =>
    intro cb hw
    rcases hw with hw | rfl
    · exact Nat.lt_of_lt_of_le (s.wr_lt cb hw) hsz
    · exact hcblt
  · intro x gx cx hx
    by_cases hxb : x = b
    · subst hxb
      rw [hb] at hx; cases hx
      exact .inl ⟨cb', sh', N', hself, hsh, ccs, ty, lo, hi, hobj, hN, hfr, fun j c hj => by
        obtain ⟨cv, h1, h2⟩ := hcells j c hj; exact ⟨cv, h1, VR.mono ⟨Nat.le_refl _, fun _ _ h => h, fun _ _ _ => rfl⟩ hle h2⟩⟩
    · rw [hH x hxb] at hx
      rcases s.live x gx cx hx with ⟨cb, sh, N, ho, hN2, ccs2, ty2, lo2, hi2, hheap, hsz2, hfr2, hc2⟩ | ⟨m1, m0, ks, vs, cb, hcs, ho, es, clock, hheap, hm⟩
      case inr =>
        refine .inr ⟨m1, by rw [hother x 1 hxb]; exact m0, ks, vs, cb, hcs, by rw [hother x 0 hxb]; exact ho, es, clock, ?_, hm.mono hgrow hle⟩
        rw [hsame cb (s.wr_lt _ (s.own_wr _ _ _ _ _ ho)) ?_]
        · exact hheap
        · rintro rfl
          rcases hcb with h | ⟨g, cs, sh0, N0, h1, h2⟩
          · have := s.wr_lt _ (s.own_wr _ _ _ _ _ ho); omega
          · rcases s.live b g cs h1 with ⟨cb3, _, _, ho3, _, _, _, _, _, hh3, _⟩ | ⟨rfl, n0, _⟩
            · rw [ho3] at h2; cases h2; rw [hheap] at hh3; cases hh3
            · rw [n0] at h2; cases h2
      refine .inl ⟨cb, sh, N, by rw [hother x gx hxb]; exact ho, hN2, ccs2, ty2, lo2, hi2, ?_, hsz2, hfr2, fun j c hj => by
        obtain ⟨cv, h1, h2⟩ := hc2 j c hj; exact ⟨cv, h1, h2.mono hgrow hle⟩⟩
      rw [hsame cb (s.wr_lt _ (s.own_wr _ _ _ _ _ ho)) ?_]
      · exact hheap
      · rintro rfl
        rcases hcb with h | ⟨g, cs, sh0, N0, h1, h2⟩
        · have := s.wr_lt _ (s.own_wr _ _ _ _ _ ho); omega
        · exact hxb (s.inj _ _ _ _ _ _ _ _ _ _ _ hx h1 ho h2)
  · intro x y gx gy cx cy cb sh N sh2 N2 hx hy hox hoy
    have key : ∀ x gx cx sh N, H'[x]? = some (gx, cx) → x ≠ b → own' x gx = some (cb, sh, N) → cb ≠ cb' := by
      intro u gu cu shu Nu hu hub hou
      rw [hother u gu hub] at hou
      rw [hH u hub] at hu
      intro e
      rw [e] at hou
      rcases hcb with h | ⟨g, cs, sh0, N0, h1, h2⟩
      · have := s.wr_lt _ (s.own_wr _ _ _ _ _ hou); omega
      · exact hub (s.inj _ _ _ _ _ _ _ _ _ _ _ hu h1 hou h2)
    by_cases hxb : x = b
    · by_cases hyb : y = b
      · rw [hxb, hyb]
      · subst hxb
        rw [hb] at hx; cases hx
        rw [hself] at hox; cases hox
        exact absurd rfl (key y gy cy sh2 N2 hy hyb hoy)
    · by_cases hyb : y = b
      · subst hyb
        rw [hb] at hy; cases hy
        rw [hself] at hoy; cases hoy
        exact absurd rfl (key x gx cx sh N hx hxb hox)
      · rw [hH x hxb] at hx; rw [hH y hyb] at hy
        rw [hother x gx hxb] at hox; rw [hother y gy hyb] at hoy
        exact s.inj _ _ _ _ _ _ _ _ _ _ _ hx hy hox hoy
  · intro x gx z hz
    by_cases hxb : x = b
    · subst hxb
      refine ⟨(List.getElem?_eq_some_iff.mp hb).1, fun g0 c0 h0 => ?_⟩
      rw [hb] at h0; cases h0
      by_cases hgx : gx = g'
      · omega
      · have : own' x gx = own x gx := by show (if _ then _ else _) = _; rw [if_neg (fun h => hgx h.2)]
        rw [this] at hz
        rcases hg _ _ hz with h | ⟨h, _⟩ <;> omega
    · rw [hother x gx hxb] at hz
      obtain ⟨h1, h2⟩ := s.fut _ _ _ hz
      exact ⟨Nat.lt_of_lt_of_le h1 hlen, fun g0 c0 h0 => h2 g0 c0 (by rw [← hH x hxb]; exact h0)⟩
  · intro x gx cb sh N hz
    by_cases hxy : x = b ∧ gx = g'
    · obtain ⟨rfl, rfl⟩ := hxy
      rw [hself] at hz; cases hz; exact .inr rfl
    · have : own' x gx = own x gx := by show (if _ then _ else _) = _; rw [if_neg hxy]
      rw [this] at hz; exact .inl (s.own_wr _ _ _ _ _ hz)

theorem St.change {H : Heap} (s : St wr W own H) {b g' : Nat} {cs' : List V} {cb' sh' N' : Nat} {H' : Heap} (hH : ∀ x, x ≠ b → H'[x]? = H[x]?) (hb : H'[b]? = some (g', cs'))
    (hlen : H.length ≤ H'.length) {W' : World} (hio : Io W W') (hsz : W.heap.size ≤ W'.heap.size) (hsame : ∀ x, x < W.heap.size → x ≠ cb' → W'.heap[x]? = W.heap[x]?)
    (hcb : W.heap.size ≤ cb' ∨ ∃ g cs sh N, H[b]? = some (g, cs) ∧ own b g = some (cb', sh, N))
    (hg : ∀ g x, own b g = some x → g < g' ∨ (g = g' ∧ x = (cb', sh', N')))
    {ccs : Array Value} {ty : TypeId} {lo hi : Nat} (hobj : W'.heap[cb']? = some (.cells ccs ty (lo, hi))) (hN : ccs.size = N') (hfr : ∀ i, i < N' → ¬ (lo ≤ i ∧ i < hi))
    (hsh : sh' + cs'.length ≤ N') (hcells : ∀ j c, cs'[j]? = some c → ∃ cv, ccs[sh' + j]? = some cv ∧ VR wr W own c cv) :
    ∃ wr' own', Ext wr W own wr' W' own' ∧ St wr' W' own' H' ∧ own' b g' = some (cb', sh', N') := by
  have hgrow : Grow wr (fun x => wr x ∨ x = cb') W W' := by
    refine ⟨hsz, ?_, ?_⟩
    · intro x hx hw
      rcases hw with hw | rfl
      · exact hw
      · rcases hcb with h | ⟨g, cs, sh, N, h1, h2⟩
        · omega
        · exact s.own_wr _ _ _ _ _ h2
    · intro x hx hnw
      refine hsame x hx ?_
      rintro rfl
      rcases hcb with h | ⟨g, cs, sh, N, h1, h2⟩
      · omega
      · exact hnw (s.own_wr _ _ _ _ _ h2)
  exact s.change0 hH hb hlen hio hsz hsame hcb hg hobj hN hfr hsh (fun j c hj => by obtain ⟨cv, h1, h2⟩ := hcells j c hj; exact ⟨cv, h1, h2.mono hgrow (Own.le_refl _)⟩)

/-- a new block -/
theorem St.push {H : Heap} (s : St wr W own H) {cs : List V} {arr : Array Value} {ty : TypeId} (hl : cs.length ≤ arr.size)
    (hv : ∀ j c, cs[j]? = some c → VR wr W own c (arr.getD j undef)) {W' : World} (hW : ∃ n, W' = ({ W with drawn := n } : World).alloc (.cells arr ty)) :
    ∃ wr' own', Ext wr W own wr' W' own' ∧ St wr' W' own' (H ++ [(0, cs)]) ∧ own' H.length 0 = some (W.heap.size, 0, arr.size) := by
  obtain ⟨n, rfl⟩ := hW
  have hg : Gl W (({ W with drawn := n } : World).alloc (.cells arr ty)) := (Gl.drawn W n).trans (Gl.alloc _ _)
  refine s.change (b := H.length) (g' := 0) (cs' := cs) (cb' := W.heap.size) (sh' := 0) (N' := arr.size) (ccs := arr) (ty := ty) (lo := 0) (hi := 0)
    (fun x hx => ?_) (by simp) (by simp) hg.io hg.size (fun x hx _ => hg.same x hx) (.inl (Nat.le_refl _)) (fun g x h => ?_) (alloc_get _ _) rfl (fun i _ h => by omega) (by simpa using hl) (fun j c hj => ?_)
  · rcases Nat.lt_or_ge x H.length with h | h
    · rw [List.getElem?_append_left h]
    · rw [List.getElem?_eq_none h, List.getElem?_eq_none (by simp; omega)]
  · have := (s.fut _ _ _ h).1; omega
  · have hj' : j < arr.size := Nat.lt_of_lt_of_le (List.getElem?_eq_some_iff.mp hj).1 hl
    refine ⟨arr.getD j undef, ?_, hv j c hj⟩
    simp [Array.getD_eq_getD_getElem?, hj']

theorem boxOk_cells {x : V} (h : boxOk x = true) : x.isCell = true ∨ x.isAg = true := by cases x <;> simp_all [boxOk, V.isCell, V.isAg]

theorem box_run {t : TypeId} {H : Heap} (s : St wr W own H) {x : V} {x' : Value} (hx : VR wr W own x x') (hb : boxOk x = true) :
    (Instr.box t x').run P W = .ok (.pointer (some ⟨W.heap.size, 0, none⟩)) (W.alloc (.cells x'.cells t)) ∧
    (∃ wr' own', Ext wr W own wr' (W.alloc (.cells x'.cells t)) own' ∧ St wr' (W.alloc (.cells x'.cells t)) own' (H ++ [(0, x.cells)]) ∧ VR wr' (W.alloc (.cells x'.cells t)) own' (.ptr H.length 0 0) (.pointer (some ⟨W.heap.size, 0, none⟩))) := by
  obtain ⟨hsz, hcv⟩ := cells_sim hx (boxOk_cells hb)
  refine ⟨by simp [Instr.box, newVar, newRow], ?_⟩
  obtain ⟨wr', own', h1, h2, h3⟩ := s.push (ty := t) (Nat.le_of_eq hsz.symm) hcv ⟨W.drawn, rfl⟩
  exact ⟨wr', own', h1, h2, .ptr h3⟩

theorem boxfr_run {t : TypeId} (hwl : ∀ cb, wr cb → cb < W.heap.size) {x : V} {x' : Value} (hx : VR wr W own x x') (hb : boxOk x = true) (hf : V.free deepN x = true) :
    (Instr.box t x').run P W = .ok (.pointer (some ⟨W.heap.size, 0, none⟩)) (W.alloc (.cells x'.cells t)) ∧ VR wr (W.alloc (.cells x'.cells t)) own (.fp x) (.pointer (some ⟨W.heap.size, 0, none⟩)) := by
  obtain ⟨hsz, hcv⟩ := cells_sim hx (boxOk_cells hb)
  refine ⟨by simp [Instr.box, newVar, newRow], ?_⟩
  have hg : Gl W (W.alloc (.cells x'.cells t)) := Gl.alloc _ _
  obtain ⟨_, hcv0⟩ := cells_sim (VR.of_free _ hf hx) (boxOk_cells hb)
  refine .fp (fun j => x'.cells.getD j undef) (fun h => by have := hwl _ h; omega) (by simp) (fun j c hj => ?_) (fun j c hj => (hcv0 j c hj).gl hg)
  have hj' : j < x'.cells.size := by rw [hsz]; exact (List.getElem?_eq_some_iff.mp hj).1
  have e := alloc_get W (.cells x'.cells t)
  simp only [World.cell?, e, Nat.zero_add]
  simp [Array.getD_eq_getD_getElem?, hj']

theorem boxr_run {t : TypeId} (hwl : ∀ cb, wr cb → cb < W.heap.size) {x : V} {x' : Value} (hx : VR wr W own x x') (hb : boxOk x = true) :
    (Instr.box t x').run P W = .ok (.pointer (some ⟨W.heap.size, 0, none⟩)) (W.alloc (.cells x'.cells t)) ∧ VR wr (W.alloc (.cells x'.cells t)) own (.bx x) (.pointer (some ⟨W.heap.size, 0, none⟩)) := by
  obtain ⟨hsz, hcv⟩ := cells_sim hx (boxOk_cells hb)
  refine ⟨by simp [Instr.box, newVar, newRow], ?_⟩
  have hg : Gl W (W.alloc (.cells x'.cells t)) := Gl.alloc _ _
  refine .bx (fun j => x'.cells.getD j undef) (fun h => by have := hwl _ h; omega) (by simp) (fun j c hj => ?_) (fun j c hj => (hcv j c hj).gl hg)
  have hj' : j < x'.cells.size := by rw [hsz]; exact (List.getElem?_eq_some_iff.mp hj).1
  have e := alloc_get W (.cells x'.cells t)
  simp only [World.cell?, e, Nat.zero_add]
  simp [Array.getD_eq_getD_getElem?, hj']

theorem chkZero_spec {t : TypeId} {zc : List V} (h : chkZero P t zc = true) : ∃ v, zeroOf P t = some v ∧ v.cells.size = zc.length ∧ ∀ j c, zc[j]? = some c → VR wr W own c (v.cells.getD j undef) := by
  unfold chkZero at h
  split at h
  · rename_i v hv
    obtain ⟨h1, h2⟩ := all2_get h
    refine ⟨v, hv, by simpa using h1, fun j c hj => ?_⟩
    have hj' : j < v.cells.size := by have := (List.getElem?_eq_some_iff.mp hj).1; simp at h1; omega
    rw [getD_of_some (Array.getElem?_eq_getElem hj')]
    exact isV0_sound (h2 j _ c (by simp [hj']) hj)
  · cases h

theorem alloc_run {t : TypeId} {zc : List V} (hz : chkZero P t zc = true) {H : Heap} (s : St wr W own H) :
    ∃ v' W', (Instr.alloc t true (.tuple #[])).run P W = .ok v' W' ∧ ∃ wr' own', Ext wr W own wr' W' own' ∧ St wr' W' own' (H ++ [(0, zc)]) ∧ VR wr' W' own' (.ptr H.length 0 0) v' := by
  obtain ⟨v, hv, hsz, hcv⟩ := chkZero_spec (wr := wr) (W := W) (own := own) hz
  obtain ⟨wr', own', h1, h2, h3⟩ := s.push (ty := t) (Nat.le_of_eq hsz.symm) hcv ⟨W.drawn, rfl⟩
  exact ⟨_, _, by simp [Instr.alloc, run_zeroValue' hv, newVar, newRow], wr', own', h1, h2, .ptr h3⟩
end
end Go.Eng
