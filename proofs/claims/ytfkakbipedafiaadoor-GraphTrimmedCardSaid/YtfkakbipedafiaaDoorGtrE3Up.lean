/- Functions of this seat, run on unknown values by the rules of the small machine (no condition beyond those stated). -/
import Derived.Test.YtfkakbipedafiaaDoorGtrPUp
import Derived.Test.YtfkakbipedafiaaDoorGtrF
import Derived.Test.YtfkakbipedafiaaDoorGtrTyUp
import Derived.Test.YtfkakbipedafiaaDoorGtrOUp
namespace Go.Eng.Gra
open Go Go.Eng
set_option linter.unusedSectionVars false
set_option linter.unusedVariables false
set_option linter.unusedSimpArgs false
structure OrdOk (bs : List T_Block) (ord : List Int) : Prop where
  len : ord.length ≤ bs.length
  nd : ord.Nodup
  zero : 0 < bs.length → (0 : Int) ∈ ord
  rng : ∀ v ∈ ord,0 ≤ v ∧ v < (bs.length : Int)
  clo : ∀ u ∈ ord,∀ b,bs[u.toNat]? = some b → ∀ to,Edge bs b to → to ∈ ord
  prd : ∀ v ∈ ord,v = 0 ∨ ∃ u ∈ ord,∃ b,bs[u.toNat]? = some b ∧ Edge bs b v
theorem order_ok (g : T_Graph) (hN : g.fBlocks.length ≤ 400) : ∃ ord,orderV g = some ord ∧ OrdOk g.fBlocks ord := by
  unfold orderV
  by_cases h0 : g.fBlocks.length = 0
  · rw [if_pos h0];exact ⟨[],rfl,⟨by simp,List.nodup_nil,fun h => by omega,fun v h => by simp at h,fun u h => by simp at h,fun v h => by simp at h⟩⟩
  rw [if_neg h0]
  generalize g.fBlocks = bs at hN h0
  rw [made_nat (by omega) (by omega),Option.bind_some];have hget : ∀ v : Nat,v < bs.length → (List.replicate bs.length false)[v]? = some false := fun v hv => by simp [hv]
  have hcnt : (List.replicate bs.length false).count false = bs.length := by simp
  obtain ⟨met',new,h1,h2,h3,h4⟩ := walk_ok bs (bs.length + 1) (List.replicate bs.length false) [] 0 (by simp) (hget 0 (by omega)) (by rw [hcnt]; omega) (by rw [hcnt]; simp; omega);have hc := h2.cnt;rw [hcnt] at hc;have h1 : walkV bs (bs.length + 1) 0 (List.replicate bs.length false,[]) = some (met',new) := h1;rw [h1,Option.bind_some]
  simp only
  rw [F36_is new (by omega)];refine ⟨new.reverse,rfl,⟨by rw [List.length_reverse]; omega,List.pairwise_reverse.2 (h2.nd.imp fun h => h.symm),fun _ => by simpa using h3,fun v hv => ?_,fun u hu b hb to he => ?_,fun v hv => ?_⟩⟩
  · have := (h2.mem v).mp (by simpa using hv);have h5 := (List.getElem?_eq_some_iff.mp this.2.1).1;rw [List.length_replicate] at h5;exact ⟨this.1,by omega⟩
  · rw [List.mem_reverse,h2.mem];exact ⟨he.1,hget _ (by have := he.1; have := he.2.1; omega),h2.clo u (by simpa using hu) b hb to he⟩
  · rcases h4 v (by simpa using hv) with h | ⟨u,hu,b,hb,he⟩
    · exact .inl (by simpa using h)
    · exact .inr ⟨u,by simpa using hu,b,hb,he⟩
end Go.Eng.Gra
namespace Go.Eng.Gra
open Go Go.Eng
set_option linter.unusedSectionVars false
set_option linter.unusedVariables false
set_option linter.unusedSimpArgs false
structure TE (ord : List Int) (t t1 : T_Term) : Prop where
  kind : t1.fKind = t.fKind
  arg : t1.fArg = t.fArg
  trap : t1.fTrap = t.fTrap
  a0 : goV t 0 = true → ∃ j : Nat,ord[j]? = some t.fTo.a0 ∧ t1.fTo.a0 = (j : Int)
  a1 : goV t 1 = true → ∃ j : Nat,ord[j]? = some t.fTo.a1 ∧ t1.fTo.a1 = (j : Int)
  n0 : goV t 0 = false → t1.fTo.a0 = t.fTo.a0
  n1 : goV t 1 = false → t1.fTo.a1 = t.fTo.a1
structure Iso (ord : List Int) (bs bs1 : List T_Block) : Prop where
  len : bs1.length = ord.length
  nd : ord.Nodup
  rng : ∀ v ∈ ord,0 ≤ v ∧ v < (bs.length : Int)
  blk : ∀ (j : Nat) (k : Int),ord[j]? = some k → ∃ b b1,bs[k.toNat]? = some b ∧ bs1[j]? = some b1 ∧ TE ord b.fTerm b1.fTerm
def pick (ord : List Int) (j : Int) : Int := ord.getD j.toNat 0
structure RelS (ord : List Int) (s s1 : WS) : Prop where
  l1 : s1.1.length = ord.length
  at_ : ∀ (j : Nat) (k : Int),ord[j]? = some k → 0 ≤ k ∧ k.toNat < s.1.length ∧ s1.1[j]? = s.1[k.toNat]?
  out : s.2 = s1.2.map (pick ord)
def IsoW (ord : List Int) (rec rec1 : Int → WS → Option WS) : Prop :=
  ∀ (j : Nat) (k : Int) (s s1 s1' : WS),ord[j]? = some k → RelS ord s s1 → rec1 (j : Int) s1 = some s1' → ∃ s',rec k s = some s' ∧ RelS ord s' s1'
theorem goV_kind {t t1 : T_Term} (h : t1.fKind = t.fKind) (k : Nat) : goV t1 k = goV t k := by unfold goV; rw [h]
theorem step_iso {ord : List Int} {rec rec1 : Int → WS → Option WS} (hr : IsoW ord rec rec1) {t t1 : T_Term} {k : Nat} {to to1 : Int} (hg : goV t1 k = goV t k) (ht : goV t k = true → ∃ j : Nat,ord[j]? = some to ∧ to1 = (j : Int)) {s s1 s1' : WS} (h : RelS ord s s1)
    (hs : stepW rec1 t1 k to1 s1 = some s1') : ∃ s',stepW rec t k to s = some s' ∧ RelS ord s' s1' := by
  unfold stepW at hs ⊢;rw [hg] at hs;cases hgo : goV t k
  · rw [hgo] at hs;simp only [Bool.false_and,Bool.false_eq_true,if_false] at hs ⊢;cases hs;exact ⟨s,rfl,h⟩
  · obtain ⟨j,hj,rfl⟩ := ht hgo;obtain ⟨h0,h1,h2⟩ := h.at_ j to hj;have hjl := (List.getElem?_eq_some_iff.mp hj).1;rw [hgo] at hs;have d1 : decide (0 ≤ (j : Int) ∧ (j : Int) < (s1.1.length : Int)) = true := decide_eq_true (by rw [h.l1]; omega);have d2 : decide (0 ≤ to ∧ to < (s.1.length : Int)) = true := decide_eq_true (by omega);have d3 : s1.1.getD (j : Int).toNat false = s.1.getD to.toNat false := by
      simp only [List.getD,Int.toNat_natCast,h2]
    rw [d1,d3] at hs;rw [d2];cases hm : s.1.getD to.toNat false
    · rw [hm] at hs;simp only [Bool.not_false,Bool.and_self,if_true] at hs ⊢;exact hr j to s s1 s1' hj h hs
    · rw [hm] at hs;simp only [Bool.not_true,Bool.and_false,Bool.false_eq_true,if_false] at hs ⊢;cases hs;exact ⟨s,rfl,h⟩
theorem upd_nat' {l : List Bool} {k : Int} (h0 : 0 ≤ k) (h : k.toNat < l.length) (v : Bool) : upd l k v = some (l.set k.toNat v) := by
  have := upd_nat (l := l) (i := k.toNat) (a := v) h
  rwa [Int.toNat_of_nonneg h0] at this
theorem walk_iso {ord : List Int} {bs bs1 : List T_Block} (hi : Iso ord bs bs1) : ∀ n,IsoW ord (walkV bs n) (walkV bs1 n)
  | 0 => fun j k s s1 s1' _ _ h => by cases h
  | n + 1 => fun j k s s1 s1' hj hR h => by
    have ih := walk_iso hi n;obtain ⟨b,b1,hb,hb1,he⟩ := hi.blk j k hj;have hjl := (List.getElem?_eq_some_iff.mp hj).1;obtain ⟨k0,k1,k2⟩ := hR.at_ j k hj;have hg := fun i => goV_kind he.kind i
    unfold walkV at h ⊢;rw [upd_nat (by rw [hR.l1]; exact hjl),Option.bind_some,idx_some hb1,Option.bind_some] at h;obtain ⟨s2,h2,h⟩ := bind_some h;obtain ⟨s3,h3,h⟩ := bind_some h;obtain ⟨o,hm,rfl⟩ := Option.map_eq_some_iff.1 h;have hR1 : RelS ord (s.1.set k.toNat true,s.2) (s1.1.set j true,s1.2) := by
      refine ⟨by rw [List.length_set]; exact hR.l1,fun j' k' hj' => ?_,hR.out⟩;obtain ⟨q0,q1,q2⟩ := hR.at_ j' k' hj';refine ⟨q0,by rw [List.length_set]; exact q1,?_⟩
      by_cases hjj : j' = j
      · subst hjj;rw [hj] at hj'; cases hj';rw [List.getElem?_set_self (by rw [hR.l1]; exact hjl),List.getElem?_set_self k1]
      · have hkk : k' ≠ k := by
          rintro rfl;exact hjj ((List.getElem?_inj (List.getElem?_eq_some_iff.mp hj').1 hi.nd).1 (hj'.trans hj.symm))
        rw [List.getElem?_set_ne (fun e => hjj e.symm),List.getElem?_set_ne (by omega)];exact q2
    obtain ⟨t2,e2,r2⟩ := step_iso ih (hg 0) he.a0 hR1 h2;obtain ⟨t3,e3,r3⟩ := step_iso ih (hg 1) he.a1 r2 h3;obtain ⟨rfl,hc⟩ := more_len hm;have hx : idx bs k = some b := by unfold idx; rw [if_pos k0]; exact hb
    rw [upd_nat' k0 k1,Option.bind_some,hx,Option.bind_some,e2,Option.bind_some,e3,Option.bind_some];have hl : t3.2.length = s3.2.length := by rw [r3.out,List.length_map]
    have hm3 : more 8 t3.2 [k] = some (t3.2 ++ [k]) := more_nat (by rw [hl]; exact hc);rw [hm3];refine ⟨(t3.1,t3.2 ++ [k]),rfl,r3.l1,r3.at_,?_⟩;show t3.2 ++ [k] = (s3.2 ++ [(j : Int)]).map (pick ord);rw [List.map_append,← r3.out]
    congr 1
    simp [pick,List.getD,hj]
theorem step_mono {rec rec1 : Int → WS → Option WS} (hr : ∀ i s r,rec i s = some r → rec1 i s = some r) {t : T_Term} {k : Nat} {to : Int} {s r : WS} (h : stepW rec t k to s = some r) : stepW rec1 t k to s = some r := by
  unfold stepW at h ⊢
  split
  · rename_i hc; rw [if_pos hc] at h; exact hr _ _ _ h
  · rename_i hc; rw [if_neg hc] at h; exact h
theorem walk_mono {bs : List T_Block} : ∀ (n : Nat) (i : Int) (s r : WS),walkV bs n i s = some r → walkV bs (n + 1) i s = some r
  | 0,i,s,r,h => by cases h
  | n + 1,i,s,r,h => by
    unfold walkV at h;unfold walkV;obtain ⟨m1,h1,h⟩ := bind_some h;obtain ⟨b,h2,h⟩ := bind_some h;obtain ⟨s2,h3,h⟩ := bind_some h;obtain ⟨s3,h4,h⟩ := bind_some h;rw [h1,Option.bind_some,h2,Option.bind_some,step_mono (walk_mono n) h3,Option.bind_some,step_mono (walk_mono n) h4,Option.bind_some];exact h
theorem walk_le {bs : List T_Block} {n m : Nat} (hnm : n ≤ m) {i : Int} {s r : WS} (h : walkV bs n i s = some r) : walkV bs m i s = some r := by
  induction hnm with
  | refl => exact h
  | step _ ih => exact walk_mono _ _ _ _ ih
theorem order_walk {g : T_Graph} {ord : List Int} (h0 : 0 < g.fBlocks.length) (hN : g.fBlocks.length ≤ 400) (h : orderV g = some ord) : ∃ s,walkV g.fBlocks (g.fBlocks.length + 1) 0 (List.replicate g.fBlocks.length false,[]) = some s ∧ ord = s.2.reverse := by
  unfold orderV at h;rw [if_neg (by omega),made_nat (by omega) (by omega),Option.bind_some] at h;obtain ⟨s,h1,h2⟩ := bind_some h;rw [F36_is _ (walk_len h1)] at h2;exact ⟨s,h1,(Option.some.inj h2).symm⟩
theorem order_head {g : T_Graph} {ord : List Int} (h0 : 0 < g.fBlocks.length) (hN : g.fBlocks.length ≤ 400) (h : orderV g = some ord) : ord[0]? = some 0 := by
  obtain ⟨s,h1,rfl⟩ := order_walk h0 hN h;unfold walkV at h1;obtain ⟨m1,_,h1⟩ := bind_some h1;obtain ⟨b,_,h1⟩ := bind_some h1;obtain ⟨s2,_,h1⟩ := bind_some h1;obtain ⟨s3,_,h1⟩ := bind_some h1;obtain ⟨o,hm,rfl⟩ := Option.map_eq_some_iff.1 h1;obtain ⟨rfl,_⟩ := more_len hm
  simp
theorem order_same {g q : T_Graph} {ord ord1 : List Int} (h0 : 0 < g.fBlocks.length) (hN : g.fBlocks.length ≤ 400) (hg : orderV g = some ord) (hi : Iso ord g.fBlocks q.fBlocks) (hle : ord.length ≤ g.fBlocks.length) (hq : orderV q = some ord1) : ord = ord1.map (pick ord) := by
  have hh := order_head h0 hN hg;have hpos : 0 < ord.length := (List.getElem?_eq_some_iff.mp hh).1;have hl := hi.len;obtain ⟨s,h1,e1⟩ := order_walk h0 hN hg;obtain ⟨s1,h2,e2⟩ := order_walk (g := q) (by omega) (by omega) hq;have hR : RelS ord (List.replicate g.fBlocks.length false,[]) (List.replicate q.fBlocks.length false,[]) := by
    refine ⟨by rw [List.length_replicate]; exact hl,fun j k hj => ?_,rfl⟩;have := hi.rng k (List.mem_of_getElem? hj);have hjl := (List.getElem?_eq_some_iff.mp hj).1;refine ⟨this.1,by rw [List.length_replicate]; omega,?_⟩;rw [List.getElem?_replicate,List.getElem?_replicate,if_pos (by omega),if_pos (by omega)]
  obtain ⟨s',h3,r⟩ := walk_iso hi _ 0 0 _ _ s1 hh hR h2;have h4 := walk_le (m := g.fBlocks.length + 1) (by omega) h3;rw [h1] at h4;cases h4;have e3 := r.out;exact e1.trans (by rw [e3,e2,List.map_reverse])
theorem order_id {g q : T_Graph} {ord ord1 : List Int} (h0 : 0 < g.fBlocks.length) (hN : g.fBlocks.length ≤ 400) (hg : orderV g = some ord) (hi : Iso ord g.fBlocks q.fBlocks) (hle : ord.length ≤ g.fBlocks.length) (hq : orderV q = some ord1) (hrng : ∀ v ∈ ord1,0 ≤ v ∧ v < (q.fBlocks.length : Int)) : ord1 = (List.range ord.length).map (fun j : Nat => (j : Int)) := by
  have e := order_same h0 hN hg hi hle hq;have hl : ord1.length = ord.length := by have := congrArg List.length e; rw [List.length_map] at this; exact this.symm
  refine List.ext_getElem? fun p => ?_
  by_cases hp : p < ord1.length
  · have hv : ord1[p]? = some ord1[p] := List.getElem?_eq_getElem hp
    generalize ord1[p] = v at hv
    have hr := hrng v (List.mem_of_getElem? hv);rw [hi.len] at hr;have h1 : ord[p]? = some (pick ord v) := by have := congrArg (·[p]?) e; simp only [List.getElem?_map,hv,Option.map_some] at this; exact this
    have h2 : ord[v.toNat]? = some (pick ord v) := by
      unfold pick List.getD;rw [List.getElem?_eq_getElem (by omega)]; rfl
    have h3 := (List.getElem?_inj (by omega) hi.nd).1 (h1.trans h2.symm);rw [hv,List.getElem?_map,List.getElem?_range (by omega)];simp only [Option.map_some]
    congr 1
    omega
  · rw [List.getElem?_eq_none (by omega),List.getElem?_eq_none (by simp; omega)]
end Go.Eng.Gra
namespace Go.Eng.Gra
open Go Go.Eng
set_option linter.unusedSectionVars false
set_option linter.unusedVariables false
set_option linter.unusedSimpArgs false
set_option maxRecDepth 20000
structure RB where
  o : Option (Nat × Nat)
  w : V
  l : List T_Ins
  t : T_Term
def RB.ok (r : RB) : Prop := r.w = slv 6 true r.l.length r.o ∨ r.l = [] ∧ r.o = none ∧ r.w = .fz []
def RB.c (r : RB) : List V := r.w :: E_Term.c r.t
def RB.b (r : RB) : T_Block := ⟨r.l,r.t⟩
def RB.ob (r : RB) : Ob := (r.o,r.l.flatMap E_Ins.c ++ [])
def rbs (rows : List RB) : List V := rows.flatMap RB.c
def robs (rows : List RB) : List Ob := rows.map RB.ob
theorem RB.c_len (r : RB) : r.c.length = 6 := rfl
theorem rbs_len : ∀ rows : List RB,(rbs rows).length = rows.length * 6
  | [] => rfl
  | r :: rows => by
    have := rbs_len rows;unfold rbs at this ⊢;rw [List.flatMap_cons,List.length_append,this,r.c_len,List.length_cons]; omega
theorem RB.ok.cell {r : RB} (h : r.ok) : r.w.isCell = true := by
  rcases h with h | ⟨_,_,h⟩
  · rw [h]; cases r.o <;> rfl
  · rw [h]; rfl
theorem RB.ok.all {r : RB} (h : r.ok) : r.c.all V.isCell = true := by
  unfold RB.c;rw [List.all_cons,h.cell,E_Term.hc]; rfl
theorem rbs_at {rows : List RB} {i : Nat} {r : RB} (h : rows[i]? = some r) : (rbs rows)[i * 6]? = some r.w := by
  induction rows generalizing i with
  | nil => simp at h
  | cons x rows ih =>
    unfold rbs at ih ⊢;rw [List.flatMap_cons];cases i with
    | zero => simp at h; subst h; rfl
    | succ i =>
      rw [List.getElem?_append_right (by rw [x.c_len]; omega),x.c_len,show (i + 1) * 6 - 6 = i * 6 by omega];exact ih (by simpa using h)
theorem rbs_snoc (rows : List RB) (r : RB) : rbs (rows ++ [r]) = rbs rows ++ r.c := by simp [rbs]
theorem rbs_set {rows : List RB} {i : Nat} {r r' : RB} (h : rows[i]? = some r) (hc : r'.c = r.c) : rbs (rows.set i r') = rbs rows := by
  induction rows generalizing i with
  | nil => simp at h
  | cons x rows ih =>
    unfold rbs at ih ⊢;cases i with
    | zero => simp at h; subst h; simp [hc]
    | succ i => simp only [List.set_cons_succ,List.flatMap_cons]; rw [ih (by simpa using h)]
theorem robs_get {rows : List RB} {i : Nat} {r : RB} (h : rows[i]? = some r) : (robs rows)[i]? = some r.ob := by unfold robs; rw [List.getElem?_map,h]; rfl
theorem robs_set (rows : List RB) (i : Nat) (r : RB) : (robs rows).set i r.ob = robs (rows.set i r) := by unfold robs; rw [List.map_set]
theorem robs_len (rows : List RB) : (robs rows).length = rows.length := by simp [robs]
theorem raw_app {H : Heap} {L : List Ob} (hp : HP H L) (i : Nat) {o : Option (Nat × Nat)} {cs : List V} (hi : L[i]? = some (o,cs)) {n z by_ : Nat} {ag : Bool} (hl : cs.length = n * z) (hz : 0 < z) {x : V} {ns : List V} {m : Nat}
    (hx : newCells H x z = some (ns,m)) (hm : 0 < m) (hc : ns.all V.isCell = true) (hb : (n + m) * by_ ≤ 140737488355328) :
    ∃ o' H1,appV H (slv z ag n o) x z ag by_ = some (slv z ag (n + m) o',H1) ∧ HP H1 (L.set i (o',cs ++ ns)) := by
  cases o with
  | none =>
    have h0 : cs = [] := hp.at_ i _ _ hi;subst h0;have hn : n = 0 := by
      rw [List.length_nil] at hl;rcases Nat.eq_zero_or_pos n with h | h
      · exact h
      · have := Nat.mul_pos h hz; omega
    subst hn;refine ⟨some (H.length,0),H ++ [(0,ns)],?_,?_⟩
    · simp only [appV,hx,Option.bind_some,hc,slv,Bool.not_true,Bool.false_eq_true,if_false];rw [if_pos (by simpa using hb),if_neg (by omega),Nat.zero_add]
    · rw [List.nil_append];have hil := (List.getElem?_eq_some_iff.mp hi).1;have hn := hp.new ns;refine ⟨fun j o' cs hj => ?_,fun j j' b g g' cs cs' h1 h2 => ?_⟩
      · by_cases hij : i = j
        · subst hij; rw [List.getElem?_set_self hil] at hj; cases hj; exact hn.at_ 0 _ _ rfl
        · rw [List.getElem?_set_ne hij] at hj; exact hn.at_ (j + 1) _ _ (by simpa using hj)
      · have mv : ∀ k b g cs,(L.set i (some (H.length,0),ns))[k]? = some (some (b,g),cs) → ((some (H.length,0),ns) :: L)[if i = k then 0 else k + 1]? = some (some (b,g),cs) := by
          intro k b g cs hk
          by_cases hik : i = k
          · subst hik; rw [List.getElem?_set_self hil] at hk; rw [if_pos rfl]; simpa using hk
          · rw [List.getElem?_set_ne hik] at hk; rw [if_neg hik]; simpa using hk
        have := hn.ne _ _ _ _ _ _ _ (mv _ _ _ _ h1) (mv _ _ _ _ h2)
        by_cases a1 : i = j <;> by_cases a2 : i = j' <;> simp [a1,a2] at this <;> omega
  | some p =>
    obtain ⟨b,g⟩ := p;have hget := hp.get hi;refine ⟨some (b,g + 1),H.set b (g + 1,cs ++ ns),?_,hp.set hi _ _⟩;simp only [appV,hx,Option.bind_some,hc,slv,Bool.not_true,Bool.false_eq_true,if_false,rdB_of hget];rw [if_pos ⟨trivial,by omega,hb⟩,List.drop_zero,List.take_of_length_le (by omega)]
theorem bsl_rb {H : Heap} {r : RB} (h : r.ok) : bslV H 6 true 1 (.ag [.nils,.int .u8 0,.int .i64 0,.int .i64 0,.int .i64 0,.int .u8 0]) [(0,.ag r.c)] false = some (.sl H.length 0 0 1 6 true,H ++ [(0,r.c)]) := by
  have ha := h.all;have h6 := r.c_len;unfold bslV;simp only [okEl,V.cells,V.isAg,List.all_cons,List.all_nil,h6,ha]
  simp [setParts,V.cells]
theorem new_rb {H : Heap} {L : List Ob} (hp : HP H L) {i b : Nat} {r : RB} (hi : L[i]? = some (some (b,0),r.c)) : newCells H (.sl b 0 0 1 6 true) 6 = some (r.c,1) := by
  simp only [newCells,rdB_of (hp.get hi),Option.bind_some];rw [if_pos ⟨trivial,by rw [r.c_len]; omega⟩,List.drop_zero,List.take_of_length_le (by rw [r.c_len]; omega)]
theorem rows_rb : ∀ (l : List RB) (rest : List V),rows 6 l.length (rbs l ++ rest) = l.map RB.c
  | [],rest => rfl
  | a :: l,rest => by
    have ih := rows_rb l rest;unfold rbs at ih ⊢;rw [List.length_cons,rows,List.flatMap_cons,List.append_assoc,List.map_cons,List.take_append_of_le_length (by rw [a.c_len]; exact Nat.le_refl _),List.take_of_length_le (by rw [a.c_len]; exact Nat.le_refl _),List.drop_append,List.drop_of_length_le (by rw [a.c_len]; exact Nat.le_refl _),a.c_len,Nat.sub_self,List.drop_zero,List.nil_append,ih]
theorem omap_mapM {α β γ : Type} (f : α → β) (g : β → Option γ) (h : α → γ) : ∀ (l : List α),(∀ a ∈ l,g (f a) = some (h a)) → omap g (l.map f) = some (l.map h)
  | [],_ => rfl
  | a :: l,ha => by
    have ih := omap_mapM f g h l (fun b hb => ha b (by simp [hb]));simp only [List.map_cons,omap,ha a (by simp),ih]
theorem deep_rbs {H : Heap} {L : List Ob} (hp : HP H L) (i : Nat) {ob : Option (Nat × Nat)} {rows : List RB} (hi : L[i]? = some (ob,rbs rows ++ [])) (hr : ∀ r ∈ rows,r.ok ∧ ∃ j : Nat,L[j]? = some r.ob) (n : Nat) :
    deep false H (n + 8) (slv 6 true rows.length ob) = some ((EL E_Block).e (rows.map RB.b)) := by
  cases ob with
  | none =>
    have h0' := hp.at_ i _ _ hi;have hl : (rbs rows ++ []).length = 0 := by rw [show rbs rows ++ [] = [] from h0']; rfl
    rw [List.append_nil,rbs_len] at hl;have : rows = [] := List.eq_nil_of_length_eq_zero (by omega);subst this; rfl
  | some p =>
    obtain ⟨b,g⟩ := p;simp only [slv];rw [deep_sl,rdB_of (hp.get hi),Option.bind_some,if_pos ⟨by rw [List.append_nil,rbs_len]; omega,by decide,.inl rfl⟩,List.drop_zero,rows_rb];rw [omap_mapM RB.c _ (fun r => E_Block.e r.b) rows (fun r hrr => ?_)]
    · show some (V.fz _) = some (V.fz _);rw [List.map_map]; rfl
    · obtain ⟨hok,j,hj⟩ := hr r hrr;show (omap (deep false H (n + 7)) r.c).map V.ag = _;have hw : deep false H (n + 7) r.w = some ((EL E_Ins).e r.l) := by
        rcases hok with h | ⟨h1,_,h⟩
        · rw [h]; exact own_deep E_Ins hp j hj false (.inl rfl) (n + 3)
        · rw [h,h1]; rfl
      have : omap (deep false H (n + 7)) r.c = some ((EL E_Ins).e r.l :: E_Term.c r.t) := omapc hw rfl;rw [this]; rfl
end Go.Eng.Gra
namespace Go.Eng.Gra
open Go Go.Eng
set_option linter.unusedSectionVars false
set_option linter.unusedVariables false
set_option linter.unusedSimpArgs false
set_option maxRecDepth 20000
section
variable {T : Nat → Option IFun} {F : FT} {H0 H h : Heap} {env : List V}
theorem Run.rgd {ls : List Nat} {ops : List IOp} {tr : List (List V × Heap)} {e' : List V} {H' : Heap} {Q : X → List V → Heap → Prop} (k : Nat) (h1 : exOps0 (exF T k) H ops env H = some tr) (h2 : stays (exF T k) H (tr.map (·.2)) ls ops tr = true) (h3 : tr.getLast? = some (e',H')) (hq : Q .nrm e' H') : Run T (.rgd ls ops) env H Q := by
  refine ⟨k + 1,.nrm,e',H',?_,hq⟩;have a := exOps0_mono (exF_mono (T := T) k (Nat.le_succ k)) h1;have b := stays_mono (exF_mono (T := T) k (Nat.le_succ k)) h2;simp only [exec,a,b,if_true,h3,Option.map_some]
theorem xq {d : Option Nat} {k : Kind} {v : V} (hq : k.quiet = true) (hv : evq F env H k = some v) : exOp0 F H0 ⟨d,none,false,k⟩ env H = some (put env d v,H) := by
  simp only [exOp0,exOp,exK,hq,if_true,Bool.false_eq_true,if_false,hv]; rfl
theorem xl {d : Option Nat} {k : Kind} {v : V} (hq : k.quiet = true) (hv : evq F env H0 k = some v) : exOp0 F H0 ⟨d,none,true,k⟩ env H = some (put env d v,H) := by
  simp only [exOp0,exOp,exK,hq,if_true,Bool.false_eq_true,if_false,hv]; rfl
theorem xw {d : Option Nat} {k : Kind} {v : V} {H' : Heap} (hq : k.quiet = false) (hv : evw F env H k = some (v,H')) : exOp0 F H0 ⟨d,none,false,k⟩ env H = some (put env d v,H') := by
  simp only [exOp0,exOp,exK,hq,if_true,Bool.false_eq_true,if_false,hv]; rfl
theorem xc {o : IOp} {r : List IOp} {e1 : List V} {H1 : Heap} {tr : List (List V × Heap)} (h1 : exOp0 F H0 o env H = some (e1,H1)) (h2 : exOps0 F H0 r e1 H1 = some tr) : exOps0 F H0 (o :: r) env H = some ((env,H) :: tr) := by
  simp only [exOps0,h1,h2]
theorem stay_ld {d : Option Nat} {x : Opd} {n : Sh} {p v : V} (hx : x.ev env = p) (h0 : ldV H0 p n = some v) (h1 : ldV h p n = some v) (he : V.eqb deepN v v = true) : stayOp F H0 ⟨d,none,true,.ld x n⟩ env h = true := by
  simp only [stayOp,gdR,evq,hx,h0,h1,he]; rfl
end
def trTo (pl : List Int) (t : T_Term) (k : Nat) (to : Int) : Option Int :=
  if (goV t k && decide (0 ≤ to ∧ to < (pl.length : Int))) = true then (idx pl to).map fun x => Go.Eng.w64 (x - 1) else some to
def setTo (t : T_Term) (k : Nat) (v : Int) : T_Term := if k = 0 then { t with fTo := ⟨v,t.fTo.a1⟩ } else { t with fTo := ⟨t.fTo.a0,v⟩ }
def getTo (t : T_Term) (k : Nat) : Int := if k = 0 then t.fTo.a0 else t.fTo.a1
abbrev cl25 : List Nat := [13,14,15,72,73,74,75,76,77,78,79,80,81,82,83,84,85,86,87,88,89,90,91,92,93,94,95,96,97,98,99,100]
def e25L (b2 b5 b8 b11 b12 : Nat) (G vo vw vl vi : V) (pl : List Int) (to2 : T_2int) (k : Nat) : List V := (mkE [(1,.fp G),(0,.ptr b2 0 0),(0,vo),(0,vw),(0,slv 1 false pl.length (some (b5,0))),(2,.ptr b8 0 0),(2,.ptr b11 0 0),(0,.ptr b12 0 0),(42,vo),(0,vl),(0,vi),(11,.ag [.int .i64 to2.a0,.int .i64 to2.a1]),(0,.int .i64 (k : Int))] 93)
def e25M (b2 b5 b8 b11 b12 : Nat) (G vo vw vl vi : V) (pl : List Int) (to2 : T_2int) (k : Nat) (to : Int) : List V := (mkE [(1,.fp G),(0,.ptr b2 0 0),(0,vo),(0,vw),(0,slv 1 false pl.length (some (b5,0))),(2,.ptr b8 0 0),(2,.ptr b11 0 0),(0,.ptr b12 0 0),(0,.int .i64 (k : Int)),(0,.int .i64 to),(40,vo),(0,vl),(0,vi),(11,.ag [.int .i64 to2.a0,.int .i64 to2.a1]),(0,.int .i64 (k : Int))] 93)
def e25N (b2 b5 b8 b11 b12 : Nat) (G vo vw vl vi : V) (pl : List Int) (to2 : T_2int) (k : Nat) (to : Int) (g : Bool) : List V := (mkE [(1,.fp G),(0,.ptr b2 0 0),(0,vo),(0,vw),(0,slv 1 false pl.length (some (b5,0))),(2,.ptr b8 0 0),(2,.ptr b11 0 0),(0,.ptr b12 0 0),(0,.int .i64 (k : Int)),(0,.int .i64 to),(0,.bool g),(39,vo),(0,vl),(0,vi),(11,.ag [.int .i64 to2.a0,.int .i64 to2.a1]),(0,.int .i64 (k : Int))] 93)
def e25P (b2 b5 b8 b11 b12 : Nat) (G vo vw vl vi : V) (pl : List Int) (to2 : T_2int) (k : Nat) (to : Int) (g : Bool) : List V := (mkE [(1,.fp G),(0,.ptr b2 0 0),(0,vo),(0,vw),(0,slv 1 false pl.length (some (b5,0))),(2,.ptr b8 0 0),(2,.ptr b11 0 0),(0,.ptr b12 0 0),(0,.int .i64 (k : Int)),(0,.int .i64 to),(40,vo),(0,vl),(0,vi),(11,.ag [.int .i64 to2.a0,.int .i64 to2.a1]),(0,.int .i64 (k : Int)),(21,.bool g)] 71)
section
variable {b2 b5 b8 b11 b12 : Nat} {G vo vw vl vi : V} {pl : List Int} {to2 : T_2int} {H : Heap} {L : List Ob}
theorem goes25 {t : T_Term} (hp : HP H ((some (b12,0),E_Term.c t) :: L)) (k : Nat) (hk : k = 0 ∨ k = 1) (to : Int) (Q : X → List V → Heap → Prop)
    (h : Run T i25n32 (e25N b2 b5 b8 b11 b12 G vo vw vl vi pl to2 k to (goV t k)) H Q) : Run T i25n33 (e25M b2 b5 b8 b11 b12 G vo vw vl vi pl to2 k to) H Q := by
  have hld := hp.ld 0 (off := 0) (n := none) (v := .int .u8 t.fKind) rfl rfl;refine Rn.g ?_;refine Ro.t 1 ?_;refine Ro.p hld ?_;cases h2 : (t.fKind == 2)
  · refine Ro.p (bool_of h2) ?_;refine Ro.t 2 ?_;refine Ro.p hld ?_;cases h1 : (t.fKind == 1)
    · have hg : goV t k = false := by unfold goV; rw [h2,h1]; rfl
      rw [hg] at h;refine Ro.p (bool_of h1) ?_;refine Ro.t 6 ?_;exact Ro.d (e25N b2 b5 b8 b11 b12 G vo vw vl vi pl to2 k to false) h
    · refine Ro.p (bool_of h1) ?_;rcases hk with rfl | rfl
      · have hg : goV t 0 = true := by unfold goV; rw [h2,h1]; rfl
        rw [hg] at h;refine Ro.t 6 ?_;exact Ro.d (e25N b2 b5 b8 b11 b12 G vo vw vl vi pl to2 0 to true) h
      · have hg : goV t 1 = false := by unfold goV; rw [h2,h1]; rfl
        rw [hg] at h;refine Ro.t 6 ?_;exact Ro.d (e25N b2 b5 b8 b11 b12 G vo vw vl vi pl to2 1 to false) h
  · have hg : goV t k = true := by unfold goV; rw [h2]; rfl
    rw [hg] at h;refine Ro.p (bool_of h2) ?_;refine Ro.t 10 ?_;exact Ro.d (e25N b2 b5 b8 b11 b12 G vo vw vl vi pl to2 k to true) h
theorem goV_set (t : T_Term) (k j : Nat) (v : Int) : goV (setTo t j v) k = goV t k := by unfold goV setTo; split <;> rfl
theorem set_get (t : T_Term) (k : Nat) (hk : k = 0 ∨ k = 1) : setTo t k (getTo t k) = t := by
  rcases hk with rfl | rfl <;> rfl
theorem round25 {t : T_Term} (hp : HP H ((some (b12,0),E_Term.c t) :: L)) {i : Nat} (hi : L[i]? = some (some (b5,0),pl.flatMap (EI .i64).c ++ [])) (k : Nat) (hk : k = 0 ∨ k = 1) {to' : Int} (h : trTo pl t k (getTo t k) = some to') :
    Run T i25n33 (e25M b2 b5 b8 b11 b12 G vo vw vl vi pl to2 k (getTo t k)) H (fun x e h => x = .nrm ∧ clrEnv cl25 e = e25L b2 b5 b8 b11 b12 G vo vw vl vi pl to2 k ∧ HP h ((some (b12,0),E_Term.c (setTo t k to')) :: L)) := by
  refine goes25 hp k hk _ _ ?_;obtain ⟨to,hto⟩ : ∃ to,getTo t k = to := ⟨_,rfl⟩;rw [hto] at h ⊢;unfold trTo at h;refine Rn.g ?_;cases hg : goV t k
  · rw [hg] at h;simp only [Bool.false_and,Bool.false_eq_true,if_false] at h;have h := Option.some.inj h; subst to';refine Ro.t 7 ?_;refine Ro.d (e25P b2 b5 b8 b11 b12 G vo vw vl vi pl to2 k to false) ?_;refine Run.condF (by kernel_rfl) ?_;exact Run.skip ⟨rfl,by kernel_rfl,by rw [← hto,set_get t k hk]; exact hp⟩
  rw [hg] at h;have hi1 : ((some (b12,0),E_Term.c t) :: L)[i + 1]? = some (some (b5,0),pl.flatMap (EI .i64).c ++ []) := by simpa using hi
  refine Ro.t 4 ?_;refine Ro.p (own_len (EI .i64) hp (i + 1) hi1) ?_;cases hb : decide (0 ≤ to ∧ to < (pl.length : Int))
  · rw [hb] at h;simp only [Bool.and_false,Bool.false_eq_true,if_false] at h;have h := Option.some.inj h; subst to';refine RunO.c1 (by kernel_rfl) (by kernel_rfl) (c34 (x0 := to) (x1 := (pl.length : Int)) (r := false) (by rw [in34,hb]) _) ?_;refine Ro.t 1 ?_;refine Ro.d (e25P b2 b5 b8 b11 b12 G vo vw vl vi pl to2 k to false) ?_;refine Run.condF (by kernel_rfl) ?_;exact Run.skip ⟨rfl,by kernel_rfl,by rw [← hto,set_get t k hk]; exact hp⟩
  rw [hb] at h;simp only [Bool.and_true,if_true,Option.map_eq_some_iff] at h;obtain ⟨y,hy,rfl⟩ := h;refine RunO.c1 (by kernel_rfl) (by kernel_rfl) (c34 (x0 := to) (x1 := (pl.length : Int)) (r := true) (by rw [in34,hb]) _) ?_;refine Ro.t 1 ?_;refine Ro.d (e25P b2 b5 b8 b11 b12 G vo vw vl vi pl to2 k to true) ?_;refine Run.condT (by kernel_rfl) ?_;refine Run.rgn ?_;refine Ro.t 3 ?_;obtain ⟨b,g,hom,hia⟩ := own_idx (EI .i64) hp (i + 1) hi1 hy;cases hom;refine Ro.p (hia .i64) ?_;refine Ro.p (own_ld (EI .i64) hp (i + 1) hi1 hy (off := 0) (n := none) (v := .int .i64 y) rfl) ?_;rcases hk with rfl | rfl
  · refine Ro.t 3 ?_;refine RunO.st hp (by kernel_rfl) 0 (off := 2) (v := .int .i64 (Go.Eng.w64 (y - 1))) (cs' := E_Term.c (setTo t 0 (Go.Eng.w64 (y - 1)))) rfl (by kernel_rfl) (by kernel_rfl) (by kernel_rfl) ?_;intro H hp;exact RunO.nil ⟨rfl,by kernel_rfl,hp⟩
  · refine Ro.t 3 ?_;refine RunO.st hp (by kernel_rfl) 0 (off := 3) (v := .int .i64 (Go.Eng.w64 (y - 1))) (cs' := E_Term.c (setTo t 1 (Go.Eng.w64 (y - 1)))) rfl (by kernel_rfl) (by kernel_rfl) (by kernel_rfl) ?_;intro H hp;exact RunO.nil ⟨rfl,by kernel_rfl,hp⟩
end
abbrev OC (x0 : T_Graph) (w : V) : List V := [ES.e x0.fName,.fz (x0.fParams.map (EI .i64).e),.int .u8 x0.fResult,.fz (x0.fVars.map (EI .u8).e),.fz (x0.fArrays.map E_Array.e),w]
theorem slv_cell (z : Nat) (ag : Bool) (n : Nat) (o : Option (Nat × Nat)) : (slv z ag n o).isCell = true := by cases o <;> rfl
theorem slv_eqb (z : Nat) (ag : Bool) (n : Nat) (o : Option (Nat × Nat)) : V.eqb deepN (slv z ag n o) (slv z ag n o) = true := by
  cases o with
  | none => rfl
  | some p => obtain ⟨b,g⟩ := p; simp [slv,V.eqb,deepN]
theorem cl46 : Cl T 46 := ⟨40,by kernel_rfl⟩
theorem st_box {H : Heap} {L : List Ob} (hp : HP H L) (i : Nat) {b8 : Nat} {x0 : T_Graph} {w w' : V} (hi : L[i]? = some (some (b8,0),OC x0 w)) (hw : w'.isCell = true) : ∃ H',stV H (.ptr b8 0 5) w' none = some H' ∧ HP H' (L.set i (some (b8,0),OC x0 w')) := by
  have hva : w'.cells = [w'] := by cases w' <;> simp_all [V.isCell,V.cells]
  have hs : stC (OC x0 w) 5 w' none = some (OC x0 w') := by
    unfold stC;rw [if_pos (by simp [fitsSh,hw,hva])]; rfl
  exact ⟨_,hp.st i hi hs,hp.set hi _ _⟩
theorem clone46 {H : Heap} {L : List Ob} (hp : HP H L) {env : List V} {l : List T_Ins} (hx : (Opd.t 105).ev env = .fz (l.map E_Ins.e)) (hb : l.length * 56 ≤ 140737488355328) :
    ∃ k w H1 o,evw (exF T k) env H (.cln true (.c (.fn 46 [])) (.t 105)) = some (w,H1) ∧ (w = slv 6 true l.length o ∨ l = [] ∧ o = none ∧ w = .fz []) ∧ HP H1 ((o,l.flatMap E_Ins.c ++ []) :: L) := by
  have e0 : (Opd.c (.fn 46 [])).ev env = .fn 46 [] := rfl;cases l with
  | nil =>
    obtain ⟨k,hk⟩ := cl46;refine ⟨k,.fz [],H,none,?_,.inr ⟨rfl,rfl,rfl⟩,hp.non⟩;have hE : isE (V.fz (([] : List T_Ins).map E_Ins.e)) = true := rfl;simp only [evw,e0,hx,hE,if_true,hk,Option.map_some]
  | cons a l =>
    obtain ⟨k,v,Hc,hk,b,g,rfl,hp'⟩ := clone_w (T := T) E_Ins (n := 46) (by_ := 56) (zero := .ag [(.int .u8 0),(.int .u8 0),(.int .i64 0),.nils,(.int .u64 0),(.int .i64 0)]) t46 rfl (l := a :: l) (by simp) hb (HP.nil (H := []));refine ⟨k,.sl H.length 0 0 (a :: l).length 6 true,H ++ [(0,(a :: l).flatMap E_Ins.c ++ [])],some (H.length,0),?_,.inl rfl,hp.new _⟩;have hE : isE (V.fz ((a :: l).map E_Ins.e)) = false := rfl;have hf : V.free deepN (V.fz ((a :: l).map E_Ins.e)) = true := rfl;have hfl : ((a :: l).flatMap E_Ins.c ++ []).all (V.free deepN) = true := by
      rw [List.append_nil,List.all_eq_true];intro y hy;obtain ⟨q,_,hq⟩ := List.mem_flatMap.mp hy;exact List.all_eq_true.mp (show (E_Ins.c q).all (V.free deepN) = true from rfl) y hq
    have hr := rdB_of (hp'.get (i := 0) rfl);simp only [evw,e0,hx,hE,Bool.false_eq_true,if_false,cln1,hf,if_true,hk,Option.bind_some,slv,hr,hfl]; rfl
theorem stays43 {F : FT} {H H1 H2 H3 H4 : Heap} {e0 e1 e2 e3 e4 e5 e6 e7 e8 e9 e10 : List V} (y1 : stayOp F H ⟨some 103,none,true,.ld (.t 102) none⟩ e1 H = true) (y2 : stayOp F H ⟨some 103,none,true,.ld (.t 102) none⟩ e1 H1 = true) (y3 : stayOp F H ⟨some 103,none,true,.ld (.t 102) none⟩ e1 H2 = true)
    (y4 : stayOp F H ⟨some 107,none,true,.ld (.t 12) (some 5)⟩ e5 H = true) (y5 : stayOp F H ⟨some 107,none,true,.ld (.t 12) (some 5)⟩ e5 H1 = true) :
    stays F H [H,H,H,H,H,H1,H1,H1,H2,H3,H3,H4] [11,8,11,11,11,7,11,11,11,11,11] i25r43 [(e0,H),(e1,H),(e2,H),(e3,H),(e4,H),(e5,H1),(e6,H1),(e7,H1),(e8,H2),(e9,H3),(e10,H3),(e10,H4)] = true := by
  simp only [i25r43,stays,List.take_succ_cons,List.take_zero,List.take_nil,List.all_cons,List.all_nil,y1,y2,y3,y4,y5,Bool.not_false,Bool.not_true,Bool.true_or,Bool.false_or,Bool.and_true,Bool.true_and]
theorem run43 {F : FT} {H H1 H2 H3 H4 : Heap} {e0 e1 e2 e3 e4 e5 e6 e7 e8 e9 e10 : List V}
    (s0 : exOp0 F H ⟨some 102,none,false,.flda (.t 8) 5 none⟩ e0 H = some (e1,H)) (s1 : exOp0 F H ⟨some 103,none,true,.ld (.t 102) none⟩ e1 H = some (e2,H))
    (s2 : exOp0 F H ⟨some 104,none,false,.flda (.t 11) 0 none⟩ e2 H = some (e3,H)) (s3 : exOp0 F H ⟨some 105,none,false,.ld (.t 104) none⟩ e3 H = some (e4,H))
    (s4 : exOp0 F H ⟨some 106,none,false,.cln true (.c (.fn 46 [])) (.t 105)⟩ e4 H = some (e5,H1)) (s5 : exOp0 F H ⟨some 107,none,true,.ld (.t 12) (some 5)⟩ e5 H1 = some (e6,H1))
    (s6 : exOp0 F H ⟨some 108,none,false,.bld [.nils,(.int .u8 0),(.int .i64 0),(.int .i64 0),(.int .i64 0),(.int .u8 0)] [(0,1,(.t 106)),(1,5,(.t 107))]⟩ e6 H1 = some (e7,H1))
    (s7 : exOp0 F H ⟨some 109,none,false,.bsl 6 true 1 (.ag [.nils,(.int .u8 0),(.int .i64 0),(.int .i64 0),(.int .i64 0),(.int .u8 0)]) [(0,(.t 108))] false⟩ e7 H1 = some (e8,H2))
    (s8 : exOp0 F H ⟨some 110,none,false,.app (.t 103) (.t 109) 6 true 64⟩ e8 H2 = some (e9,H3)) (s9 : exOp0 F H ⟨some 111,none,false,.flda (.t 8) 5 none⟩ e9 H3 = some (e10,H3))
    (s10 : exOp0 F H ⟨none,none,false,.st (.t 111) (.t 110) none⟩ e10 H3 = some (e10,H4)) :
    exOps0 F H i25r43 e0 H = some [(e0,H),(e1,H),(e2,H),(e3,H),(e4,H),(e5,H1),(e6,H1),(e7,H1),(e8,H2),(e9,H3),(e10,H3),(e10,H4)] := by
  unfold i25r43;exact xc s0 (xc s1 (xc s2 (xc s3 (xc s4 (xc s5 (xc s6 (xc s7 (xc s8 (xc s9 (xc s10 rfl))))))))))
abbrev cl43 : List Nat := [10,11,12,13,14,15,59,60,61,62,63,64,65,66,67,68,69,70,71,72,73,74,75,76,77,78,79,80,81,82,83,84,85,86,87,88,89,90,91,92,93,94,95,96,97,98,99,100,101,102,103,104,105,106,107,108,109,110,111]
def e25K (b2 b5 b8 b11 b12 : Nat) (G vo vw vl vi : V) (pl : List Int) : List V := (mkE [(1,.fp G),(0,.ptr b2 0 0),(0,vo),(0,vw),(0,slv 1 false pl.length (some (b5,0))),(2,.ptr b8 0 0),(2,.ptr b11 0 0),(0,.ptr b12 0 0),(42,vo),(0,vl),(0,vi)] 106)
def e25J (b2 b5 b8 : Nat) (G vo vw vl vi : V) (pl : List Int) : List V := (mkE [(1,.fp G),(0,.ptr b2 0 0),(0,vo),(0,vw),(0,slv 1 false pl.length (some (b5,0))),(2,.ptr b8 0 0),(46,vo),(0,vl),(0,vi)] 106)
def e43E (b2 b5 b8 b11 b12 : Nat) (G vo vw vl vi : V) (pl : List Int) (v3 v5 w v7 v8 v9 v10 : V) : List V :=
  put (put (put (put (put (put (put (put (put (put (e25K b2 b5 b8 b11 b12 G vo vw vl vi pl) (some 102) (.ptr b8 0 5)) (some 103) v3) (some 104) (.ptr b11 0 0)) (some 105) v5) (some 106) w) (some 107) v7) (some 108) v8) (some 109) v9) (some 110) v10) (some 111) (.ptr b8 0 5)
set_option maxHeartbeats 1600000 in
theorem row43 {b2 b5 b8 b11 b12 : Nat} {G vo vw vl vi : V} {pl : List Int} {x0 : T_Graph} {b : T_Block} {t : T_Term} {rows : List RB} {ob : Option (Nat × Nat)} {H : Heap} {L : List Ob}
    (hp : HP H ((some (b12,0),E_Term.c t) :: (some (b11,0),E_Block.c b) :: (some (b8,0),OC x0 (slv 6 true rows.length ob)) :: (ob,rbs rows ++ []) :: L)) (hb : b.fIns.length * 56 ≤ 140737488355328) (hn : (rows.length + 1) * 64 ≤ 140737488355328)
    (Q : X → List V → Heap → Prop)
    (hq : ∀ (r : RB) (ob' : Option (Nat × Nat)) (H' : Heap) (e' : List V),r.ok → r.l = b.fIns → r.t = t → clrEnv cl43 e' = e25J b2 b5 b8 G vo vw vl vi pl →
      HP H' ((some (b8,0),OC x0 (slv 6 true (rows ++ [r]).length ob')) :: (ob',rbs (rows ++ [r]) ++ []) :: r.ob :: L) → Q .nrm e' H') :
    Run T (.rgd [11,8,11,11,11,7,11,11,11,11,11] i25r43) (e25K b2 b5 b8 b11 b12 G vo vw vl vi pl) H Q := by
  generalize hv3 : slv 6 true rows.length ob = v3 at hp
  let e0 := e25K b2 b5 b8 b11 b12 G vo vw vl vi pl
  let e1 := put e0 (some 102) (.ptr b8 0 5)
  let e2 := put e1 (some 103) v3
  let e3 := put e2 (some 104) (.ptr b11 0 0)
  let e4 := put e3 (some 105) ((EL E_Ins).e b.fIns)
  obtain ⟨k,w,H1,o,hcl,hw,hp1⟩ := clone46 hp (env := e4) (l := b.fIns) (by kernel_rfl) hb
  let r : RB := ⟨o,w,b.fIns,t⟩
  have hrok : r.ok := hw
  let e5 := put e4 (some 106) w
  let e6 := put e5 (some 107) (.ag (E_Term.c t))
  let e7 := put e6 (some 108) (.ag r.c)
  let e8 := put e7 (some 109) (.sl H1.length 0 0 1 6 true)
  let H2 := H1 ++ [(0,r.c)]
  have hp2 : HP H2 ((some (H1.length,0),r.c) :: (o,b.fIns.flatMap E_Ins.c ++ []) :: (some (b12,0),E_Term.c t) :: (some (b11,0),E_Block.c b) :: (some (b8,0),OC x0 v3) :: (ob,rbs rows ++ []) :: L) := hp1.new _;obtain ⟨ob',H3,happ,hp3⟩ := raw_app hp2 5 (o := ob) (cs := rbs rows ++ []) rfl (n := rows.length) (z := 6) (by_ := 64) (ag := true) (by rw [List.append_nil,rbs_len]) (by decide) (new_rb hp2 (i := 0) rfl) (by decide) hrok.all hn
  let v10 := slv 6 true (rows.length + 1) ob'
  let e9 := put e8 (some 110) v10
  let e10 := put e9 (some 111) (.ptr b8 0 5)
  obtain ⟨H4,hst,hp4⟩ := st_box hp3 4 (b8 := b8) (x0 := x0) (w := v3) rfl (w' := v10) (slv_cell _ _ _ _);have q1 : ldV H (.ptr b8 0 5) none = some v3 := hp.ld 2 rfl rfl;have q1' : ldV H1 (.ptr b8 0 5) none = some v3 := hp1.ld 3 rfl rfl;have q1'' : ldV H2 (.ptr b8 0 5) none = some v3 := hp2.ld 4 rfl rfl;have q3 : ldV H (.ptr b11 0 0) none = some ((EL E_Ins).e b.fIns) := hp.ld 1 rfl rfl;have q5 : ldV H (.ptr b12 0 0) (some 5) = some (.ag (E_Term.c t)) := hp.ld 0 rfl rfl;have q5' : ldV H1 (.ptr b12 0 0) (some 5) = some (.ag (E_Term.c t)) := hp1.ld 1 rfl rfl;have a1 : (Opd.t 102).ev e1 = .ptr b8 0 5 := by kernel_rfl
  have a3 : (Opd.t 104).ev e3 = .ptr b11 0 0 := by kernel_rfl
  have a5 : (Opd.t 12).ev e5 = .ptr b12 0 0 := by kernel_rfl
  have a8 : (Opd.t 103).ev e8 = v3 := by kernel_rfl
  have a8' : (Opd.t 109).ev e8 = .sl H1.length 0 0 1 6 true := by kernel_rfl
  have a10 : (Opd.t 111).ev e10 = .ptr b8 0 5 := by kernel_rfl
  have a10' : (Opd.t 110).ev e10 = v10 := by kernel_rfl
  have h6 : evq (exF T k) e6 H1 (.bld [.nils,(.int .u8 0),(.int .i64 0),(.int .i64 0),(.int .i64 0),(.int .u8 0)] [(0,1,(.t 106)),(1,5,(.t 107))]) = some (.ag r.c) := by
    have b1 : (Opd.t 106).ev e6 = w := by kernel_rfl
    have b2 : (Opd.t 107).ev e6 = .ag (E_Term.c t) := by kernel_rfl
    simp only [evq,List.map_cons,List.map_nil,b1,b2];have hwc : w.cells = [w] := by have := hrok.cell; revert this; show w.isCell = true → _; cases w <;> simp [V.isCell,V.cells]
    have hwi : w.isCell = true := hrok.cell;have ht := E_Term.hc t;simp only [bldV,hwc,List.length_singleton,List.all_cons,List.all_nil,hwi,Bool.and_true,List.length_cons,List.length_nil];rw [if_pos ⟨trivial,trivial,by omega⟩,if_pos ⟨rfl,ht,by simp [splice]⟩]
    rfl
  have h7 : evw (exF T k) e7 H1 (.bsl 6 true 1 (.ag [.nils,(.int .u8 0),(.int .i64 0),(.int .i64 0),(.int .i64 0),(.int .u8 0)]) [(0,(.t 108))] false) = some (.sl H1.length 0 0 1 6 true,H2) := by
    have b1 : (Opd.t 108).ev e7 = .ag r.c := by kernel_rfl
    simp only [evw,List.map_cons,List.map_nil,b1];exact bsl_rb hrok
  have h8 : evw (exF T k) e8 H2 (.app (.t 103) (.t 109) 6 true 64) = some (v10,H3) := by
    simp only [evw,a8,a8',← hv3]; exact happ
  have h10 : evw (exF T k) e10 H3 (.st (.t 111) (.t 110) none) = some (.sk,H4) := by
    simp only [evw,a10,a10',hst]; rfl
  have s3 : V.eqb deepN v3 v3 = true := by rw [← hv3]; exact slv_eqb _ _ _ _
  have s5 : V.eqb deepN (.ag (E_Term.c t)) (.ag (E_Term.c t)) = true := by simp [V.eqb,deepN,eqb2,E_Term,EI]
  have z0 : exOp0 (exF T k) H ⟨some 102,none,false,.flda (.t 8) 5 none⟩ e0 H = some (e1,H) := xq (v := .ptr b8 0 5) rfl (by kernel_rfl);have z1 : exOp0 (exF T k) H ⟨some 103,none,true,.ld (.t 102) none⟩ e1 H = some (e2,H) := xl (v := v3) rfl (by show ldV H ((Opd.t 102).ev e1) none = _; rw [a1]; exact q1);have z2 : exOp0 (exF T k) H ⟨some 104,none,false,.flda (.t 11) 0 none⟩ e2 H = some (e3,H) := xq (v := .ptr b11 0 0) rfl (by kernel_rfl);have z3 : exOp0 (exF T k) H ⟨some 105,none,false,.ld (.t 104) none⟩ e3 H = some (e4,H) := xq (v := (EL E_Ins).e b.fIns) rfl (by show ldV H ((Opd.t 104).ev e3) none = _; rw [a3]; exact q3);have z4 : exOp0 (exF T k) H ⟨some 106,none,false,.cln true (.c (.fn 46 [])) (.t 105)⟩ e4 H = some (e5,H1) := xw (v := w) (H' := H1) rfl hcl;have z5 : exOp0 (exF T k) H ⟨some 107,none,true,.ld (.t 12) (some 5)⟩ e5 H1 = some (e6,H1) := xl (v := .ag (E_Term.c t)) rfl (by show ldV H ((Opd.t 12).ev e5) (some 5) = _; rw [a5]; exact q5);have z9 : exOp0 (exF T k) H ⟨some 111,none,false,.flda (.t 8) 5 none⟩ e9 H3 = some (e10,H3) := xq (v := .ptr b8 0 5) rfl (by kernel_rfl);have run := run43 z0 z1 z2 z3 z4 z5 (xq (v := .ag r.c) rfl h6) (xw (v := .sl H1.length 0 0 1 6 true) (H' := H2) rfl h7) (xw (v := v10) (H' := H3) rfl h8) z9 (xw (v := .sk) (H' := H4) rfl h10);have y1 : stayOp (exF T k) H ⟨some 103,none,true,.ld (.t 102) none⟩ e1 H = true := stay_ld a1 q1 q1 s3;have y2 : stayOp (exF T k) H ⟨some 103,none,true,.ld (.t 102) none⟩ e1 H1 = true := stay_ld a1 q1 q1' s3;have y3 : stayOp (exF T k) H ⟨some 103,none,true,.ld (.t 102) none⟩ e1 H2 = true := stay_ld a1 q1 q1'' s3;have y4 : stayOp (exF T k) H ⟨some 107,none,true,.ld (.t 12) (some 5)⟩ e5 H = true := stay_ld a5 q5 q5 s5;have y5 : stayOp (exF T k) H ⟨some 107,none,true,.ld (.t 12) (some 5)⟩ e5 H1 = true := stay_ld a5 q5 q5' s5;refine Run.rgd k run (stays43 y1 y2 y3 y4 y5) rfl ?_;have hp5 := (((hp4.del 0).del 1).del 1).pick 2 rfl;have hp6 := hp5.pick 2 rfl;refine hq r ob' H4 e10 hrok rfl rfl (by kernel_rfl) ?_;have el : (rows ++ [r]).length = rows.length + 1 := by simp
  have ec : rbs (rows ++ [r]) ++ [] = rbs rows ++ [] ++ r.c := by rw [rbs_snoc]; simp
  rw [el,ec];exact hp6
end Go.Eng.Gra
namespace Go.Eng.Gra
open Go Go.Eng
set_option linter.unusedSectionVars false
set_option linter.unusedVariables false
set_option linter.unusedSimpArgs false
set_option maxRecDepth 20000
def clo {α : Type} (by_ : Nat) (l : List α) : Option (List α) := if l.length * by_ ≤ 140737488355328 then some l else none
theorem clo_spec {α : Type} {by_ : Nat} {l l' : List α} (h : clo by_ l = some l') : l' = l ∧ l.length * by_ ≤ 140737488355328 := by
  unfold clo at h
  split at h
  · cases h; exact ⟨rfl,by assumption⟩
  · cases h
def setAt : List Int → Nat → List Int → Option (List Int)
  | [],_,pl => some pl
  | k :: o,i,pl => (upd pl k ((i + 1 : Nat) : Int)).bind fun pl' => setAt o (i + 1) pl'
def trTm (pl : List Int) (t : T_Term) : Option T_Term :=
  (trTo pl t 0 t.fTo.a0).bind fun a => (trTo pl t 1 t.fTo.a1).map fun b => { t with fTo := ⟨a,b⟩ }
def trB (bs : List T_Block) (pl : List Int) (k : Int) : Option T_Block :=
  (idx bs k).bind fun b => (trTm pl b.fTerm).bind fun t => (clo 56 b.fIns).map fun l => ⟨l,t⟩
def argsT (was : List (List Int)) (o : List Int) (i : Nat) (nw : List Int) (x : T_Ins) : Option (List Int) :=
  if (x.fKind == 1) = true then (idx o (i : Int)).bind fun k => (idx was k).bind fun wr => F47 x.fArgs wr nw o else some x.fArgs
def insT (was : List (List Int)) (o : List Int) (i : Nat) (nw : List Int) (x : T_Ins) : Option T_Ins :=
  (argsT was o i nw x).bind fun a => (clo 8 a).map fun a => { x with fArgs := a }
def rowsT (was : List (List Int)) (o : List Int) (now : List (List Int)) : Nat → List T_Block → Option (List T_Block)
  | _,[] => some []
  | i,b :: bs => (idx now (i : Int)).bind fun nw => (omap (insT was o i nw) b.fIns).bind fun l => (rowsT was o now (i + 1) bs).map fun r => ⟨l,b.fTerm⟩ :: r
def F25 (g : T_Graph) : Option T_Graph :=
  (orderV g).bind fun o => if g.fBlocks.length ≤ 1048576 ∧ o.length ≤ 1048576 then
    (made 8 (0 : Int) ((g.fBlocks.length : Nat) : Int)).bind fun pl0 => (setAt o 0 pl0).bind fun pl =>
    (clo 8 g.fParams).bind fun _ => (clo 1 g.fVars).bind fun _ => (clo 16 g.fArrays).bind fun _ =>
    (omap (trB g.fBlocks pl) o).bind fun bs1 =>
    (rowsT (aheadV g.fBlocks) o (aheadV bs1) 0 bs1).map fun bs2 => { g with fBlocks := bs2 }
  else none
theorem cl43' : Cl T 43 := ⟨40,by kernel_rfl⟩
theorem cl44 : Cl T 44 := ⟨40,by kernel_rfl⟩
theorem cl45 : Cl T 45 := ⟨40,by kernel_rfl⟩
theorem rrev {rows : List RB} {i : Nat} {r : RB} (h : rows[i]? = some r) : (robs rows.reverse)[rows.length - 1 - i]? = some r.ob := by
  have hi := (List.getElem?_eq_some_iff.mp h).1;unfold robs;rw [List.getElem?_map,List.getElem?_reverse (by omega),show rows.length - 1 - (rows.length - 1 - i) = i by omega,h]; rfl
theorem rrev_set {rows : List RB} {i : Nat} (hi : i < rows.length) (r : RB) : (robs rows.reverse).set (rows.length - 1 - i) r.ob = robs (rows.set i r).reverse := by
  refine List.ext_getElem? fun j => ?_
  by_cases hj : j < rows.length
  · have e : (robs (rows.set i r).reverse)[j]? = ((rows.set i r)[rows.length - 1 - j]?).map RB.ob := by
      unfold robs; rw [List.getElem?_map,List.getElem?_reverse (by simpa using hj),List.length_set]
    have e2 : (robs rows.reverse)[j]? = (rows[rows.length - 1 - j]?).map RB.ob := by
      unfold robs; rw [List.getElem?_map,List.getElem?_reverse hj]
    rw [e]
    by_cases hji : rows.length - 1 - i = j
    · rw [← hji,List.getElem?_set_self (by simp [robs]; omega),show rows.length - 1 - (rows.length - 1 - i) = i by omega,List.getElem?_set_self hi]; rfl
    · rw [List.getElem?_set_ne hji,e2,List.getElem?_set_ne (by omega)]
  · rw [List.getElem?_eq_none (by simp [robs]; omega),List.getElem?_eq_none (by simp [robs]; omega)]
theorem rb_idx {H : Heap} {L : List Ob} (hp : HP H L) (j : Nat) {ob : Option (Nat × Nat)} {rows : List RB} (hj : L[j]? = some (ob,rbs rows ++ [])) {i : Nat} (hi : i < rows.length) :
    ∃ b g,ob = some (b,g) ∧ ∀ k,idxaV (slv 6 true rows.length ob) (.int k (i : Int)) 6 true = some (.ptr b g (i * 6)) := by
  cases ob with
  | none =>
    have h0 := hp.at_ j _ _ hj;have hl : (rbs rows ++ []).length = 0 := by rw [show rbs rows ++ [] = [] from h0]; rfl
    rw [List.append_nil,rbs_len] at hl; omega
  | some p =>
    obtain ⟨b,g⟩ := p;refine ⟨b,g,rfl,fun k => ?_⟩;simp only [slv,idxaV];rw [if_pos ⟨by omega,by omega,trivial,trivial⟩,Nat.zero_add,Int.toNat_natCast]
theorem rb_ld {H : Heap} {L : List Ob} (hp : HP H L) (j : Nat) {b g : Nat} {rows : List RB} (hj : L[j]? = some (some (b,g),rbs rows ++ [])) {i : Nat} {r : RB} (hi : rows[i]? = some r) : ldV H (.ptr b g (i * 6 + 0)) none = some r.w := by
  refine hp.ld j hj ?_;rw [List.append_nil];exact rbs_at hi
theorem rb_len {H : Heap} {L : List Ob} (hp : HP H L) (j : Nat) {r : RB} (hj : L[j]? = some r.ob) (h : r.ok) : lenV false r.w = some (.int .i64 ((r.l.length : Nat) : Int)) := by
  rcases h with h | ⟨h1,_,h⟩
  · rw [h]; exact own_len E_Ins hp j hj
  · rw [h,h1]; rfl
theorem trTo_get {pl : List Int} {t : T_Term} (k : Nat) (v : Int) {to : Int} : trTo pl (setTo t 0 v) k to = trTo pl t k to := by unfold trTo; rw [goV_set]
theorem setAt_len : ∀ {o : List Int} {i : Nat} {pl pl' : List Int},setAt o i pl = some pl' → pl'.length = pl.length
  | [],i,pl,pl',h => by simp [setAt] at h; rw [h]
  | k :: o,i,pl,pl',h => by
    simp only [setAt] at h;obtain ⟨p,h1,h2⟩ := bind_some h;rw [setAt_len h2,upd_len h1]
theorem set_self {α : Type} {l : List α} {i : Nat} {a : α} (h : l[i]? = some a) : l.set i a = l := by
  refine List.ext_getElem? fun j => ?_
  by_cases hij : i = j
  · subst hij; rw [List.getElem?_set_self (List.getElem?_eq_some_iff.mp h).1,h]
  · rw [List.getElem?_set_ne hij]
def e25A (b2 b5 : Nat) (G : V) (o : List Int) (was : List (List Int)) (n : Nat) (x : Int) : List V := (mkE [(1,.fp G),(0,.ptr b2 0 0),(0,Zl (EI .i64) o),(0,Zl (EL (EI .i64)) was),(0,slv 1 false n (some (b5,0))),(22,Zl (EI .i64) o),(0,.int .i64 (ln o)),(0,.int .i64 x)] 133)
def e25Q (b2 b8 : Nat) (o : List Int) (was now : List (List Int)) (x : Int) : List V := (mkE [(2,.ptr b2 0 0),(0,Zl (EI .i64) o),(0,Zl (EL (EI .i64)) was),(3,.ptr b8 0 0),(105,Zl (EL (EI .i64)) now),(0,.int .i64 (ln now)),(0,.int .i64 x)] 47)
def e25R (b2 b8 : Nat) (o : List Int) (was now : List (List Int)) (x : Int) (nw : List Int) (w : V) (n : Nat) (y : Int) : List V := (mkE [(2,.ptr b2 0 0),(0,Zl (EI .i64) o),(0,Zl (EL (EI .i64)) was),(3,.ptr b8 0 0),(7,.int .i64 x),(0,Zl (EI .i64) nw),(96,Zl (EL (EI .i64)) now),(0,.int .i64 (ln now)),(0,.int .i64 x),(9,w),(0,.int .i64 (n : Int)),(0,.int .i64 y)] 35)
def e25S (b2 b8 b19 : Nat) (o : List Int) (was now : List (List Int)) (x : Int) (nw : List Int) (w : V) (n : Nat) (y : Int) : List V := (mkE [(2,.ptr b2 0 0),(0,Zl (EI .i64) o),(0,Zl (EL (EI .i64)) was),(3,.ptr b8 0 0),(7,.int .i64 x),(0,Zl (EI .i64) nw),(0,.int .i64 y),(0,.ptr b19 0 0),(94,Zl (EL (EI .i64)) now),(0,.int .i64 (ln now)),(0,.int .i64 x),(9,w),(0,.int .i64 (n : Int)),(0,.int .i64 y)] 35)
abbrev cl68 : List Nat := [133,134,135,136,137,138,139,140,141,142,143,144,145,146,147,148]
theorem args25 {b2 b8 b19 : Nat} {o : List Int} {was now : List (List Int)} {i : Nat} {x : Int} (hxi : x = (i : Int)) {nw : List Int} {w : V} {n : Nat} {y : Int} {z : T_Ins} {a : List Int} {H : Heap} {L : List Ob}
    (hp : HP H ((some (b19,0),E_Ins.c z) :: L)) (h : argsT was o i nw z = some a) :
    Run T i25n67 (e25S b2 b8 b19 o was now x nw w n y) H (fun X e h => X = .nrm ∧ clrEnv cl68 e = e25S b2 b8 b19 o was now x nw w n y ∧ HP h ((some (b19,0),E_Ins.c { z with fArgs := a }) :: L)) := by
  unfold argsT at h;refine Rn.g ?_;refine Ro.t 1 ?_;refine Ro.p (hp.ld 0 (off := 0) (n := none) (v := .int .u8 z.fKind) rfl rfl) ?_;cases hk : (z.fKind == 1)
  · rw [hk] at h;have h := Option.some.inj h;refine Ro.p (bool_of hk) ?_;refine Ro.d (mkE [(2,.ptr b2 0 0),(0,Zl (EI .i64) o),(0,Zl (EL (EI .i64)) was),(3,.ptr b8 0 0),(7,.int .i64 x),(0,Zl (EI .i64) nw),(0,.int .i64 y),(0,.ptr b19 0 0),(94,Zl (EL (EI .i64)) now),(0,.int .i64 (ln now)),(0,.int .i64 x),(9,w),(0,.int .i64 (n : Int)),(0,.int .i64 y),(6,.bool false)] 28) ?_;refine Run.condF (by kernel_rfl) ?_;refine Run.skip ⟨rfl,by kernel_rfl,?_⟩;rw [← h]; exact hp
  · rw [hk] at h;obtain ⟨k,h1,h⟩ := bind_some h;obtain ⟨wr,h2,h⟩ := bind_some h;refine Ro.p (bool_of hk) ?_;refine Ro.d (mkE [(2,.ptr b2 0 0),(0,Zl (EI .i64) o),(0,Zl (EL (EI .i64)) was),(3,.ptr b8 0 0),(7,.int .i64 x),(0,Zl (EI .i64) nw),(0,.int .i64 y),(0,.ptr b19 0 0),(94,Zl (EL (EI .i64)) now),(0,.int .i64 (ln now)),(0,.int .i64 x),(9,w),(0,.int .i64 (n : Int)),(0,.int .i64 y),(6,.bool true)] 28) ?_;refine Run.condT (by kernel_rfl) ?_;refine Run.rgn ?_;refine Ro.t 1 ?_;refine Ro.p (hp.ld 0 (off := 3) (n := none) (v := (EL (EI .i64)).e z.fArgs) rfl rfl) ?_;refine Ro.t 3 ?_;refine Ro.p (idx_fz (EI .i64) (l := o) (i := x) (a := k) .i64 (by rw [hxi]; exact h1)) ?_;refine Ro.t 1 ?_;refine Ro.p (idx_fz (EL (EI .i64)) (l := was) (i := k) (a := wr) .i64 h2) ?_;refine Ro.t 3 ?_;refine RunO.c2 (by kernel_rfl) (by kernel_rfl) (by kernel_rfl) (c47 h false) ?_;refine Ro.t 1 ?_;refine RunO.st hp (by kernel_rfl) 0 (off := 3) (v := (EL (EI .i64)).e a) (cs' := E_Ins.c { z with fArgs := a }) rfl (by kernel_rfl) (by kernel_rfl) (by kernel_rfl) ?_;intro H hp;exact RunO.nil ⟨rfl,by kernel_rfl,hp⟩
theorem ins25 {b2 b8 : Nat} {o : List Int} {was now : List (List Int)} {i : Nat} {x : Int} (hxi : x = (i : Int)) {nw : List Int} {x0 : T_Graph} {tl : List Ob} {l2 : List T_Ins} (Q : X → List V → Heap → Prop) {rows : List RB} {ob : Option (Nat × Nat)} {r : RB} {H : Heap}
    (hi : rows[i]? = some r) (hok : ∀ q ∈ rows,q.ok) (hbig : r.l.length ≤ 140737488355328)
    (hp : HP H ((some (b8,0),OC x0 (slv 6 true rows.length ob)) :: (ob,rbs rows ++ []) :: robs rows.reverse ++ tl)) (h : omap (insT was o i nw) r.l = some l2)
    (hq : ∀ (r' : RB) (H' : Heap) (e' : List V),r'.ok → r'.w = r.w → r'.t = r.t → r'.l = l2 → clrEnv [16,17,18,19,118,119,120,121,122,123,124,125,126,127,128,129,130,131,132,133,134,135,136,137,138,139,140,141,142,143,144,145,146,147,148,149,150,151,152,153,154,155,156,157,158,159,160,161] e' = e25Q b2 b8 o was now x →
      HP H' ((some (b8,0),OC x0 (slv 6 true rows.length ob)) :: (ob,rbs rows ++ []) :: robs (rows.set i r').reverse ++ tl) → Q .nrm e' H') :
    Run T i25n77 (e25R b2 b8 o was now x nw r.w r.l.length 0) H Q := by
  have hil : i < rows.length := (List.getElem?_eq_some_iff.mp hi).1;have hrok := hok r (List.mem_of_getElem? hi);refine Run.block ?_;refine Run.loopc (fun m e h => ∃ (k : Nat) (y : Int) (l lt : List T_Ins),y = (k : Int) ∧ k ≤ r.l.length ∧ m = r.l.length - k ∧ l.length = r.l.length ∧ omap (insT was o i nw) (l.drop k) = some lt ∧ l.take k ++ lt = l2 ∧
      HP h ((some (b8,0),OC x0 (slv 6 true rows.length ob)) :: (ob,rbs rows ++ []) :: robs (rows.set i ⟨r.o,r.w,l,r.t⟩).reverse ++ tl) ∧ e = e25R b2 b8 o was now x nw r.w r.l.length y) r.l.length
    ⟨0,0,r.l,l2,rfl,by omega,by omega,rfl,h,rfl,by rw [show (⟨r.o,r.w,r.l,r.t⟩ : RB) = r from rfl,set_self hi]; exact hp,by kernel_rfl⟩ ?_
  rintro m e H ⟨k,y,l,lt,hy,hk,rfl,hll,hlt,hl2,hp,rfl⟩;refine Rn.g ?_;refine Ro.t 1 ?_;refine Ro.d (mkE [(2,.ptr b2 0 0),(0,Zl (EI .i64) o),(0,Zl (EL (EI .i64)) was),(3,.ptr b8 0 0),(7,.int .i64 x),(0,Zl (EI .i64) nw),(96,Zl (EL (EI .i64)) now),(0,.int .i64 (ln now)),(0,.int .i64 x),(9,r.w),(0,.int .i64 ((r.l.length : Nat) : Int)),(0,.int .i64 y),(0,.bool (decide (y < ((r.l.length : Nat) : Int))))] 34) ?_;refine Run.seq ?_
  by_cases hkl : k < r.l.length
  · refine Run.condT (by rw [decide_eq_true (show y < ((r.l.length : Nat) : Int) by omega)]; kernel_rfl) ?_;refine Run.skip ?_;refine Rn.c (e25R b2 b8 o was now x nw r.w r.l.length y) ?_;have hkl' : k < l.length := by omega
    have hz : l[k]? = some l[k] := List.getElem?_eq_getElem hkl';have hdrop : l.drop k = l[k] :: l.drop (k + 1) := List.drop_eq_getElem_cons hkl';rw [hdrop] at hlt
    generalize l[k] = z at hz hlt hdrop
    simp only [omap] at hlt
    split at hlt
    case h_2 => cases hlt
    rename_i z' lt' hins hrest
    cases hlt;unfold insT at hins;obtain ⟨a,ha,hins⟩ := bind_some hins;obtain ⟨a',hclo,rfl⟩ := Option.map_eq_some_iff.1 hins;obtain ⟨rfl,hclb⟩ := clo_spec hclo;have hri : (rows.set i ⟨r.o,r.w,l,r.t⟩)[i]? = some ⟨r.o,r.w,l,r.t⟩ := by rw [List.getElem?_set_self hil]
    have hpos := rrev hri;rw [List.length_set] at hpos;have hidx : ((some (b8,0),OC x0 (slv 6 true rows.length ob)) :: (ob,rbs rows ++ []) :: robs (rows.set i ⟨r.o,r.w,l,r.t⟩).reverse ++ tl)[2 + (rows.length - 1 - i)]? = some (r.o,l.flatMap E_Ins.c ++ []) := by
      rw [show 2 + (rows.length - 1 - i) = (rows.length - 1 - i) + 1 + 1 by omega,List.cons_append,List.cons_append,List.getElem?_cons_succ,List.getElem?_cons_succ,List.getElem?_append_left (List.getElem?_eq_some_iff.mp hpos).1];exact hpos
    have hw : r.w = slv E_Ins.z E_Ins.ag l.length r.o := by
      rcases hrok with h | ⟨h1,_,_⟩
      · rw [h,hll]; rfl
      · rw [h1] at hkl; simp at hkl
    have hzi : idx l y = some z := by rw [hy]; exact idx_some hz
    obtain ⟨b',g',hro,hia⟩ := own_idx E_Ins hp _ hidx hzi;rw [← hw] at hia;refine Run.seq ?_;refine Run.block ?_;refine Rn.g ?_;refine Ro.t 1 ?_;refine Ro.p (hia .i64) ?_;have hidx2 := hidx.trans (show some (r.o,l.flatMap E_Ins.c ++ []) = some (some (b',g'),l.flatMap E_Ins.c ++ []) by rw [hro]);refine Ro.p (own_ld E_Ins hp _ hidx2 hzi (off := 0) (n := some 6) (v := E_Ins.e z) rfl) ?_;refine RunO.alloc hp (by kernel_rfl) ?_;intro b19 H hp;refine Ro.t 1 ?_;refine RunO.st hp (by kernel_rfl) 0 (off := 0) (v := E_Ins.e z) (cs' := E_Ins.c z) rfl (by kernel_rfl) (by kernel_rfl) (by kernel_rfl) ?_;intro H hp;refine Ro.d (e25S b2 b8 b19 o was now x nw r.w r.l.length y) ?_;refine Run.seq ?_;refine (args25 hxi hp ha).mono ?_;rintro X e H ⟨rfl,he,hp⟩;show Run T (.clr cl68 (.rgn i25r68)) _ _ _;refine Run.clr ?_;rw [he];refine Run.rgn ?_;obtain ⟨bb,gg,rfl,hib⟩ := rb_idx hp 2 rfl hil;refine Ro.t 1 ?_;refine Ro.p (hp.ld 1 (off := 5) (n := none) (v := slv 6 true rows.length (some (bb,gg))) rfl rfl) ?_;refine Ro.t 1 ?_;refine Ro.p (v := idxaV (slv 6 true rows.length (some (bb,gg))) (.int .i64 x) 6 true) (u := .ptr bb gg (i * 6)) (by rw [hxi]; exact hib .i64) ?_;refine Ro.t 1 ?_;refine Ro.p (rb_ld hp 2 rfl hi) ?_;refine Ro.t 2 ?_;refine Ro.p (hp.ld 0 (off := 3) (n := none) (v := (EL (EI .i64)).e a') rfl rfl) ?_;refine RunO.cl (EI .i64) (n := 43) (by_ := 8) (zero := .int .i64 0) (by kernel_rfl) (l := a') (by kernel_rfl) t43 rfl cl43' hclb ?_;refine Ro.p (hia .i64) ?_;refine Ro.t 1 ?_;refine RunO.st hp (by kernel_rfl) (1 + (2 + (rows.length - 1 - i))) (off := y.toNat * E_Ins.z + 3) (v := (EL (EI .i64)).e a') (by rw [Nat.add_comm,List.getElem?_cons_succ]; exact hidx2) (by kernel_rfl) (by kernel_rfl) (own_stf E_Ins hzi (a' := { z with fArgs := a' }) (off := 3) (by decide) rfl rfl) ?_;intro H hp;refine RunO.nil ?_;show Run T (.clr _ (.rgn i25r72)) _ _ _;refine Rn.k (e25R b2 b8 o was now x nw r.w r.l.length y) ?_;have hadd : IntKind.i64.wrap (y + 1) = ((k + 1 : Nat) : Int) := by rw [hy,wrap64_in (by omega) (by omega)]; omega
    have hyk : y.toNat = k := by omega
    refine Run.rgn (Ro.t 2 (RunO.nil ⟨r.l.length - (k + 1),by omega,k + 1,_,l.set k { z with fArgs := a' },lt',hadd,by omega,rfl,by simpa using hll,?_,?_,?_,by kernel_rfl⟩))
    · rw [List.drop_set_of_lt (by omega)]; exact hrest
    · rw [← hl2];have e : (l.set k { z with fArgs := a' }).take (k + 1) = l.take k ++ [{ z with fArgs := a' }] := by
        rw [List.take_succ_eq_append_getElem (by simpa using hkl'),List.getElem_set_self,List.take_set_of_le (Nat.le_refl _)]
      rw [e]; simp
    · have hp2 := hp.del 0;rw [Nat.add_comm 1,List.set_cons_succ,List.eraseIdx_cons_zero] at hp2;rw [show 2 + (rows.length - 1 - i) = (rows.length - 1 - i) + 1 + 1 by omega,List.cons_append,List.cons_append,List.set_cons_succ,List.set_cons_succ,List.set_append_left _ _ (by have := (List.getElem?_eq_some_iff.mp hpos).1; exact this),hyk,← hro] at hp2;have hs := rrev_set (rows := rows.set i ⟨r.o,r.w,l,r.t⟩) (i := i) (by simpa using hil) ⟨r.o,r.w,l.set k { z with fArgs := a' },r.t⟩;rw [List.length_set,List.set_set] at hs;rw [← hs];exact hp2
  · refine Run.condF (by rw [decide_eq_false (show ¬ y < ((r.l.length : Nat) : Int) by omega)]; kernel_rfl) ?_;refine Run.exit ?_;have hk2 : k = r.l.length := by omega
    subst hk2;rw [List.drop_of_length_le (by omega)] at hlt;cases hlt;rw [List.take_of_length_le (by omega),List.append_nil] at hl2;subst hl2;refine hq ⟨r.o,r.w,l,r.t⟩ H _ ?_ rfl rfl rfl (by kernel_rfl) hp;rcases hrok with h | ⟨h1,h2,h3⟩
    · exact .inl (by show r.w = slv 6 true l.length r.o; rw [h,hll])
    · refine .inr ⟨?_,h2,h3⟩;exact List.eq_nil_of_length_eq_zero (by rw [h1] at hll; simpa using hll)
end Go.Eng.Gra
