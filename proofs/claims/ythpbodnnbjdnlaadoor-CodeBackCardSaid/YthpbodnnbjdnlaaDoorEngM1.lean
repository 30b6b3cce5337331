/- Functions of this seat, run on unknown values by the rules of the small machine (no condition beyond those stated). -/
import Derived.Test.YthpbodnnbjdnlaaDoorEngM0
namespace Go.Eng
open Go
set_option linter.unusedSectionVars false
set_option linter.unusedVariables false
set_option linter.unusedSimpArgs false
variable [Glob]
def Kind.lays : Kind → Bool
  | .mkmp | .mks .. | .alloc _ | .box _ false => true
  | _ => false
theorem lays_quiet {k : Kind} (h : k.lays = true) : k.quiet = false := by
  unfold Kind.lays at h
  split at h <;> first | rfl | cases h
theorem lays_w {F : FT} {env : List V} {H H' : Heap} {k : Kind} {v : V} (hl : k.lays = true) (h : evw F env H k = some (v,H')) : ∃ b,H' = H ++ [b] := by
  unfold Kind.lays at hl
  split at hl
  · simp only [evw,Option.some.injEq,Prod.mk.injEq] at h; exact ⟨_,h.2.symm⟩
  · simp only [evw] at h;unfold mksV at h
    split at h
    · split at h
      · cases h; exact ⟨_,rfl⟩
      · cases h
    · cases h
  · simp only [evw,Option.some.injEq,Prod.mk.injEq] at h; exact ⟨_,h.2.symm⟩
  · simp only [evw] at h
    split at h
    · cases h; exact ⟨_,rfl⟩
    · cases h
  · cases hl
def hx (is : List IOp) (Hs : Nat → Heap) (l : Array Bool) : Nat → Heap
  | 0 => Hs 0
  | i + 1 => match is[i]? with
    | some o => if o.k.lays = true then hx is Hs l i ++ [if l.getD i false = true then (Hs (i + 1)).getD (Hs i).length (0,[]) else (0,[])] else hx is Hs l i
    | none => hx is Hs l i
section
variable {wr : Nat → Prop} {W : World} {own : Own} {P : Program}
theorem St.hole {H : Heap} (s : St wr W own H) : St wr W own (H ++ [(0,[])]) := by
  have hd : Dead own H.length := by
    intro g;cases ho : own H.length g with
    | none => rfl
    | some x => have := (s.fut _ _ _ ho).1; omega
  have old : ∀ b x g,own b g = some x → b < H.length := fun b x g h => (s.fut _ _ _ h).1
  have get : ∀ b y,b < H.length → (H ++ [((0 : Nat),([] : List V))])[b]? = some y → H[b]? = some y := by
    intro b y hb h; rwa [List.getElem?_append_left hb] at h
  refine ⟨⟨fun b g cs h => ?_,s.wr_lt,s.glob⟩,fun b b' g g' cs cs' cb sh N sh' N' h h' o o' => s.inj b b' g g' cs cs' cb sh N sh' N' (get _ _ (old _ _ _ o) h) (get _ _ (old _ _ _ o') h') o o',fun b b' cs cs' cb h h' m m' o o' => s.injm b b' cs cs' cb (get _ _ (old _ _ _ o) h) (get _ _ (old _ _ _ o') h') m m' o o',fun b g x h => ?_,s.own_wr⟩
  · rcases Nat.lt_or_ge b H.length with hb | hb
    · exact s.live b g cs (get _ _ hb h)
    · have : b = H.length := by
        have := (List.getElem?_eq_some_iff.mp h).1
        simp at this; omega
      subst this;exact .inr (.inr hd)
  · obtain ⟨h1,h2⟩ := s.fut _ _ _ h;exact ⟨by simp; omega,fun g' cs h' => h2 g' cs (get _ _ h1 h')⟩
theorem St.fill {H : Heap} (s : St wr W own H) {b : Nat} (hb : b < H.length) (hd : Dead own b) {cs : List V} {arr : Array Value} {ty : TypeId} (hl : cs.length ≤ arr.size)
    (hv : ∀ j c,cs[j]? = some c → VR wr W own c (arr.getD j undef)) :
    ∃ wr' own',Ext wr W own wr' (W.alloc (.cells arr ty)) own' ∧ St wr' (W.alloc (.cells arr ty)) own' (H.set b (0,cs)) ∧ own' b 0 = some (W.heap.size,0,arr.size) ∧ ∀ x y,x ≠ b → own' x y = own x y := by
  have hg : Gl W (W.alloc (.cells arr ty)) := Gl.alloc _ _;refine s.changeX (b := b) (g' := 0) (cs' := cs) (cb' := W.heap.size) (sh' := 0) (N' := arr.size) (ccs := arr) (ty := ty) (lo := 0) (hi := 0)
    (fun x hx => by rw [List.getElem?_set_ne (fun e => hx e.symm)]) (by simp [hb]) (by simp) hg.io hg.size (fun x hx _ => hg.same x hx) (.inl (Nat.le_refl _)) (fun g x h => by rw [hd g] at h; cases h) (alloc_get _ _) rfl (fun i _ h => by omega) (by simpa using hl) (fun j c hj => ?_)
  have hj' : j < arr.size := Nat.lt_of_lt_of_le (List.getElem?_eq_some_iff.mp hj).1 hl;refine ⟨arr.getD j undef,?_,hv j c hj⟩
  simp [Array.getD_eq_getD_getElem?,hj']
theorem St.fillM {H : Heap} (s : St wr W own H) {b : Nat} (hb : b < H.length) (hd : Dead own b) :
    ∃ wr' own',Ext wr W own wr' (W.alloc (.map #[] 0)) own' ∧ St wr' (W.alloc (.map #[] 0)) own' (H.set b (1,[.mpb [] []])) ∧ own' b 0 = some (W.heap.size,0,0) ∧ ∀ x y,x ≠ b → own' x y = own x y :=
  s.changeMX (b := b) (ks' := []) (vs' := []) (cb' := W.heap.size) (H' := H.set b (1,[.mpb [] []])) (W' := W.alloc (.map #[] 0)) (es := #[]) (clock := 0)
    (fun x hx => by rw [List.getElem?_set_ne (fun e => hx e.symm)]) (by simp [hb]) (by simp) (Gl.alloc _ _).io (Gl.alloc _ _).size (fun x hx _ => (Gl.alloc _ _).same x hx) (.inl ⟨Nat.le_refl _,hd⟩)
    (alloc_get _ _) ⟨rfl,rfl,fun j k e h => by simp at h,fun j k e h => by simp at h⟩
theorem lays_fill {F : FT} {o : Oper} {k : Kind} (hl : k.lays = true) (hk : chkK P o.op k = true) {Hx : Heap} (s : St wr W own Hx) {H1 : Heap} (hb : H1.length < Hx.length) (hd : Dead own H1.length) {env : List V} {a : Act}
    (hv : ∀ t,VR wr W own (env.getD t .un) (a.tmps.getD t undef)) {v : V} {blk : Nat × List V} (h : evw F env H1 k = some (v,H1 ++ [blk])) {K : Act → World → Prop} {Q : Exit → Act → World → Prop}
    (hK : ∀ v' W' wr' own',Ext wr W own wr' W' own' → St wr' W' own' (Hx.set H1.length blk) → VR wr' W' own' v v' → (∀ b,b ≠ H1.length → Dead own b → Dead own' b) → K (a.put o.dst v') W') : o.wp P a W K Q := by
  obtain ⟨dst,op,ty,pos,after,guard⟩ := o
  dsimp only at hk
  unfold chkK at hk
  split at hk <;> (try (simp only [Kind.lays,Bool.false_eq_true] at hl; done)) <;> (try simp only [Bool.and_eq_true,beq_iff_eq,decide_eq_true_eq] at hk)
  case h_14 t0 x x' fr =>
    cases fr with
    | true => simp [Kind.lays] at hl
    | false =>
      simp only [evw] at h
      split at h
      case isFalse => cases h
      rename_i hbx
      simp only [Option.some.injEq,Prod.mk.injEq,List.append_cancel_left_eq,List.cons.injEq,and_true] at h;obtain ⟨rfl,rfl⟩ := h;obtain ⟨hsz,hcv⟩ := cells_sim (opd_sim s.glob hv hk) (boxOk_cells hbx);obtain ⟨wr',own',h1,h2,h3,h4⟩ := s.fill (ty := t0) hb hd (Nat.le_of_eq hsz.symm) hcv;unfold Oper.wp;rw [show (execOp a.eval ⟨dst,.box t0 x,ty,pos,after,guard⟩) = (do pure (Next.value (← Instr.box t0 (a.eval x)))) from rfl,run_v (v' := .pointer (some ⟨W.heap.size,0,none⟩)) (W' := W.alloc (.cells (a.eval x).cells t0)) (by simp [Instr.box,newVar,newRow]),Oper.upon_value];exact hK _ _ wr' own' h1 h2 (.ptr h3) (fun b hne hdd g => by rw [h4 b g hne]; exact hdd g)
  case h_16 t0 zc =>
    simp only [evw,Option.some.injEq,Prod.mk.injEq,List.append_cancel_left_eq,List.cons.injEq,and_true] at h;obtain ⟨rfl,rfl⟩ := h;obtain ⟨z,hz,hsz,hcv⟩ := chkZero_spec (wr := wr) (W := W) (own := own) hk;obtain ⟨wr',own',h1,h2,h3,h4⟩ := s.fill (ty := t0) hb hd (Nat.le_of_eq hsz.symm) hcv;unfold Oper.wp;rw [show (execOp a.eval ⟨dst,.alloc t0,ty,pos,after,guard⟩) = (do pure (Next.value (← Instr.alloc t0 true (.tuple #[])))) from rfl,run_v (v' := .pointer (some ⟨W.heap.size,0,none⟩)) (W' := W.alloc (.cells z.cells t0)) (by simp [Instr.alloc,run_zeroValue' hz,newVar,newRow]),Oper.upon_value];exact hK _ _ wr' own' h1 h2 (.ptr h3) (fun b hne hdd g => by rw [h4 b g hne]; exact hdd g)
  case h_19 t0 l c z ag zc by_ l' c' =>
    obtain ⟨⟨⟨k1,k2⟩,k3⟩,k4⟩ := hk;obtain ⟨e,hu,hz,ha,hht,hz0,_⟩ := chkEl_spec k3;have hso : sliceOf P t0 = some e := by simp [sliceOf,hu]
    rw [hso] at k4;simp only [Bool.and_eq_true,beq_iff_eq,decide_eq_true_eq] at k4;obtain ⟨⟨hc1,hc2⟩,hc3⟩ := k4;obtain ⟨zv,hzv,hzs,hzr⟩ := chkZero_spec (wr := wr) (W := W) (own := own) hc1;cases hi : P.info? e with
    | none => simp [hi] at hc2
    | some i =>
      simp [hi] at hc2
      have hiz : i.size = z := by simp [szOf,hi] at hz; exact hz
      have hzz : i.zero = some zv := by simp [zeroOf,hi] at hzv; exact hzv
      have hlv := opd_sim s.glob hv k1;have hcv := opd_sim s.glob hv k2;simp only [evw] at h
      generalize l'.ev env = lv at h hlv
      generalize c'.ev env = cv at h hcv
      unfold mksV at h
      split at h
      case h_2 => cases h
      rename_i n m
      split at h
      case isFalse => cases h
      rename_i hh
      simp only [Option.some.injEq,Prod.mk.injEq,List.append_cancel_left_eq,List.cons.injEq,and_true] at h;obtain ⟨rfl,rfl⟩ := h;obtain ⟨h1,h2,h3,h4⟩ := hh
      generalize hl2 : a.eval l = l2 at hlv
      generalize hc2' : a.eval c = c2 at hcv
      cases hlv; cases hcv;have hr := run_make (P := P) W t0 e i zv hu hi hzz .i64 .i64 n m h1 h2 (by rw [hc2,Int.mul_comm]; omega) (by omega);have hg := made_get (wr := wr) (W := W) (own := own) hzs hzr n.toNat m.toNat (by omega) (by omega);rw [hiz,← hc3] at hr;obtain ⟨wr',own',e1,e2,e3,e4⟩ := s.fill (ty := e) hb hd hg.1 hg.2;unfold Oper.wp;rw [show (execOp a.eval ⟨dst,.makeSlice t0 l c,ty,pos,after,guard⟩) = (do pure (Next.value (← Instr.makeSlice t0 (a.eval l) (a.eval c)))) from rfl,hl2,hc2',run_v hr,Oper.upon_value];exact hK _ _ wr' own' e1 e2 (.sl e3 (by omega) (.inr (by simp)) (.inr (by rw [size_madeCells,hc3]; omega))) (fun b hne hdd g => by rw [e4 b g hne]; exact hdd g)
  case h_40 t0 r0 =>
    simp only [evw,Option.some.injEq,Prod.mk.injEq,List.append_cancel_left_eq,List.cons.injEq,and_true] at h;obtain ⟨rfl,rfl⟩ := h;have hr : r0 = none := by simpa using hk
    subst hr;obtain ⟨wr',own',h1,h2,h3,h4⟩ := s.fillM hb hd;unfold Oper.wp;rw [show (execOp a.eval ⟨dst,.makeMap t0 none,ty,pos,after,guard⟩) = (do pure (Next.value (← Instr.makeMap t0 none))) from rfl,run_v (v' := .map (some W.heap.size)) (W' := W.alloc (.map #[] 0)) (by simp [Instr.makeMap,run_newObj_alloc]),Oper.upon_value];exact hK _ _ wr' own' h1 h2 (.mp h3) (fun b hne hdd g => by rw [h4 b g hne]; exact hdd g)
  case h_50 => cases hk
end
def chkDrawA (ops : Array Oper) (is : List IOp) : Bool :=
  let bs := befs ops.toList []
  let pre := fun j i => (bs.getD i 0).testBit j
  decide (0 < is.length) &&
  ((List.range ops.size).all (fun i => match ops[i]? with | some o => o.after.toList.all (fun e => !Region.binds .any e || decide (e.on < i)) | none => true) &&
  (allPairs is.length (fun i j => i == j || (match is[i]?,is[j]? with
    | some a,some b => (match b.dst with | some t => a.dst != some t && (!a.tm.contains t || pre j i || pre i j) | none => true)
    | _,_ => true)) &&
  (List.range is.length).all (fun i => match is[i]? with
    | some o => if i + 1 = is.length then (List.range i).all (fun j => pre j i) else o.guard.isNone && (o.k.lays || (o.k.quiet && !o.hp))
    | none => true)))
structure DrawA (ops : Array Oper) (is : List IOp) : Prop where
  pos : 0 < is.length
  edge : ∀ i o e,ops[i]? = some o → e ∈ o.after.toList → Region.binds .any e = true → e.on < i
  dst : ∀ (i j t : Nat) (a b : IOp),is[i]? = some a → is[j]? = some b → a.dst = some t → b.dst = some t → i = j
  nam : ∀ (i j t : Nat) (a b : IOp),i ≠ j → is[i]? = some a → is[j]? = some b → b.dst = some t → t ∈ a.tm → Prec ops j i ∨ Prec ops i j
  low : ∀ (i : Nat) (o : IOp),is[i]? = some o → i + 1 < is.length → (o.k.lays = true ∧ o.guard = none) ∨ (o.k.quiet = true ∧ o.hp = false ∧ o.guard = none)
  last : ∀ i j,i + 1 = is.length → j < i → Prec ops j i
theorem chkDrawA_spec {ops : Array Oper} {is : List IOp} (h : chkDrawA ops is = true) : DrawA ops is := by
  simp only [chkDrawA,allPairs,Bool.and_eq_true,List.all_eq_true,List.mem_range,decide_eq_true_eq] at h;obtain ⟨h0,h1,h2,h3⟩ := h;have hp := befs_spec (ops := ops) ops.toList [] (fun k o hk => by simpa using hk) (fun m j hj => by simp at hj);have pair : ∀ (i j : Nat) (a b : IOp),i ≠ j → is[i]? = some a → is[j]? = some b →
      (match b.dst with | some t => a.dst ≠ some t ∧ (t ∈ a.tm → Prec ops j i ∨ Prec ops i j) | none => True) := by
    intro i j a b hij ha hb;have := h2 i (List.getElem?_eq_some_iff.mp ha).1 j (List.getElem?_eq_some_iff.mp hb).1;rw [ha,hb] at this;simp only [Bool.or_eq_true,beq_iff_eq,hij,false_or] at this;cases hd : b.dst with
    | none => trivial
    | some t =>
      rw [hd] at this;simp only [Bool.and_eq_true,bne_iff_ne,ne_eq,Bool.or_eq_true,Bool.not_eq_true'] at this;refine ⟨this.1,fun ht => ?_⟩;rcases this.2 with (h | h) | h
      · exfalso; simp at h; exact h ht
      · exact .inl (hp _ _ h)
      · exact .inr (hp _ _ h)
  refine ⟨h0,?_,?_,?_,?_,?_⟩
  · intro i o e ho he hb;have hlt : i < ops.size := (Array.getElem?_eq_some_iff.mp ho).1;have := h1 i hlt;rw [ho] at this;simp only [List.all_eq_true,Bool.or_eq_true,Bool.not_eq_true',decide_eq_true_eq] at this;rcases this e he with h | h
    · rw [hb] at h; cases h
    · exact h
  · intro i j t a b ha hb hda hdb
    by_cases hij : i = j
    · exact hij
    · have := pair i j a b hij ha hb;rw [hdb] at this;exact absurd hda this.1
  · intro i j t a b hij ha hb hdb ht;have := pair i j a b hij ha hb;rw [hdb] at this;exact this.2 ht
  · intro i o ho hi;have := h3 i (by omega);rw [ho] at this;simp only at this;rw [if_neg (by omega)] at this;simp only [Bool.and_eq_true,Bool.or_eq_true,Bool.not_eq_true',Option.isNone_iff_eq_none] at this;rcases this.2 with h | h
    · exact .inl ⟨h,this.1⟩
    · exact .inr ⟨h.1,h.2,this.1⟩
  · intro i j hi hj;have ho := List.getElem?_eq_getElem (l := is) (i := i) (by omega);have := h3 i (by omega);rw [ho] at this;simp only at this;rw [if_pos hi] at this;simp only [List.all_eq_true,List.mem_range] at this;exact hp _ _ (this j hj)
section
variable {P : Program} {F : FT} {ops : Array Oper} {is : List IOp}
theorem drawA_sim (hF : FSim P F) {Q : Exit → Act → World → Prop} (hc : all2 (chkOp P ops) ops.toList is = true) (hd : DrawA ops is) {env0 envn : List V} {H0 Hn : Heap}
    (hex : exOps F is env0 H0 = some (envn,Hn)) {wr0 : Nat → Prop} {W0 : World} {own0' : Own} {a0 : Act} (s0 : Sim wr0 W0 own0' H0 env0 a0.tmps)
    (hQ : ∀ a' W' wr' own',Ext wr0 W0 own0' wr' W' own' → Sim wr' W' own' Hn envn a'.tmps → a'.defers = a0.defers → Q .normal a' W') :
    wpAny P .any ops Q ops.size (Array.replicate ops.size false) a0 W0 := by
  obtain ⟨E,Hs,t1,t2,t3,t4,t5⟩ := exOps_trace is hex;obtain ⟨c1,c2⟩ := all2_get hc;have hlen : is.length = ops.size := by simpa using c1.symm
  have hn1 : is.length - 1 + 1 = is.length := by have := hd.pos; omega
  have shape : ∀ (i : Nat) (o : IOp),is[i]? = some o → ∃ v,E (i + 1) = put (E i) o.dst v ∧ (o.k.quiet = true → Hs (i + 1) = Hs i) := by
    intro i o ho;obtain ⟨v,h1,h2,_⟩ := exOp_congr (t5 i o ho) (fun t _ => rfl) (fun _ => rfl);exact ⟨v,h1,h2⟩
  have lenE : ∀ i,i ≤ is.length → (E i).length = env0.length := by
    intro i
    induction i with
    | zero => intro _; rw [t1]
    | succ i ih =>
      intro hi;obtain ⟨v,h1,_⟩ := shape i is[i] (List.getElem?_eq_getElem (by omega));rw [h1,← ih (by omega)];cases is[i].dst <;> simp [put]
  have envAt : ∀ (t : Nat),(∀ (j : Nat) (o : IOp),is[j]? = some o → o.dst ≠ some t) → ∀ i,i ≤ is.length → (E i).getD t .un = env0.getD t .un := by
    intro t ht i
    induction i with
    | zero => intro _; rw [t1]
    | succ i ih =>
      intro hi;have ho := List.getElem?_eq_getElem (l := is) (i := i) (by omega);obtain ⟨v,h1,_⟩ := shape i _ ho;rw [h1,← ih (by omega)];have := ht i _ ho;cases hdd : is[i].dst with
      | none => rfl
      | some d =>
        have hne : d ≠ t := by rintro rfl; exact this hdd
        simp [put,List.getD,List.getElem?_set_ne hne]
  have envAt2 : ∀ (t j : Nat) (o : IOp),is[j]? = some o → o.dst = some t → ∀ i,i ≤ is.length → (E i).getD t .un = if j < i then envn.getD t .un else env0.getD t .un := by
    intro t j o hj hdj;have hjl : j < is.length := (List.getElem?_eq_some_iff.mp hj).1;have other : ∀ i,i < is.length → i ≠ j → (E (i + 1)).getD t .un = (E i).getD t .un := by
      intro i hi hij;have ho := List.getElem?_eq_getElem (l := is) hi;obtain ⟨v,h1,_⟩ := shape i _ ho;rw [h1];cases hdd : is[i].dst with
      | none => rfl
      | some d =>
        have hne : d ≠ t := by rintro rfl; exact hij (hd.dst i j d _ _ ho hj hdd hdj)
        simp [put,List.getD,List.getElem?_set_ne hne]
    have low : ∀ i,i ≤ j → (E i).getD t .un = env0.getD t .un := by
      intro i
      induction i with
      | zero => intro _; rw [t1]
      | succ i ih => intro hi; rw [other i (by omega) (by omega),ih (by omega)]
    have high : ∀ d,j + 1 + d ≤ is.length → (E (j + 1 + d)).getD t .un = (E (j + 1)).getD t .un := by
      intro d
      induction d with
      | zero => intro _; rfl
      | succ d ih => intro hi; rw [show j + 1 + (d + 1) = (j + 1 + d) + 1 by omega,other (j + 1 + d) (by omega) (by omega),ih (by omega)]
    intro i hi
    split
    · rename_i hji
      have e1 := high (i - (j + 1)) (by omega);have e2 := high (is.length - (j + 1)) (by omega);rw [show j + 1 + (i - (j + 1)) = i by omega] at e1;rw [show j + 1 + (is.length - (j + 1)) = is.length by omega,t3] at e2;rw [e1,e2]
    · exact low i (by omega)
  have trq : ∀ (i : Nat) (o : IOp),i + 1 < is.length → is[i]? = some o → o.k.lays = false → Hs (i + 1) = Hs i := by
    intro i o hi ho hl;rcases hd.low i o ho hi with ⟨h,_⟩ | ⟨h,_,_⟩
    · rw [hl] at h; cases h
    · obtain ⟨v,_,h2⟩ := shape i o ho;exact h2 h
  have trl : ∀ (i : Nat) (o : IOp),i + 1 < is.length → is[i]? = some o → o.k.lays = true → ∃ v b,evw F (E i) (Hs i) o.k = some (v,Hs i ++ [b]) ∧ E (i + 1) = put (E i) o.dst v ∧ Hs (i + 1) = Hs i ++ [b] ∧ o.guard = none := by
    intro i o hi ho hl;have hg : o.guard = none := by
      rcases hd.low i o ho hi with ⟨_,h⟩ | ⟨_,_,h⟩ <;> exact h
    have h := t5 i o ho;unfold exOp at h;rw [hg] at h;unfold exK at h;rw [if_neg (by rw [lays_quiet hl]; simp)] at h;simp only [Option.map_eq_some_iff,Prod.mk.injEq] at h;obtain ⟨⟨v,H2⟩,h1,h2,h3⟩ := h;obtain ⟨b,rfl⟩ := lays_w hl h1;simp only at h2 h3;exact ⟨v,b,h1,h2.symm,h3.symm,hg⟩
  have hxlen : ∀ (l : Array Bool) i,i + 1 ≤ is.length → (hx is Hs l i).length = (Hs i).length := by
    intro l i
    induction i with
    | zero => intro _; rfl
    | succ i ih =>
      intro hi;have ho := List.getElem?_eq_getElem (l := is) (i := i) (by omega);have ih := ih (by omega);simp only [hx,ho];cases hl : is[i].k.lays
      · rw [trq i _ (by omega) ho hl]; simpa using ih
      · obtain ⟨_,b,_,_,h3,_⟩ := trl i _ (by omega) ho hl;rw [h3]; simp [ih]
  have hxall : ∀ (l : Array Bool) i,i + 1 ≤ is.length → (∀ j,j < i → l.getD j false = true) → hx is Hs l i = Hs i := by
    intro l i
    induction i with
    | zero => intro _ _; rfl
    | succ i ih =>
      intro hi hj;have ho := List.getElem?_eq_getElem (l := is) (i := i) (by omega);have ih := ih (by omega) (fun j h => hj j (by omega));simp only [hx,ho];cases hl : is[i].k.lays
      · rw [trq i _ (by omega) ho hl]; simpa using ih
      · obtain ⟨_,b,_,_,h3,_⟩ := trl i _ (by omega) ho hl;rw [ih,h3,if_pos (hj i (by omega))]; simp
  have hsl : ∀ (j : Nat) (o : IOp),is[j]? = some o → o.k.lays = true → ∀ d,j + 1 + d + 1 ≤ is.length → (Hs j).length < (Hs (j + 1 + d)).length := by
    intro j o hjo hl d
    induction d with
    | zero =>
      intro h;obtain ⟨_,b,_,_,h3,_⟩ := trl j o (by omega) hjo hl;rw [Nat.add_zero,h3]; simp
    | succ d ihd =>
      intro h;have := ihd (by omega);have ho2 := List.getElem?_eq_getElem (l := is) (i := j + 1 + d) (by omega);rw [show j + 1 + (d + 1) = (j + 1 + d) + 1 by omega];cases hl2 : is[j + 1 + d].k.lays
      · rw [trq _ _ (by omega) ho2 hl2]; exact this
      · obtain ⟨_,b,_,_,h3,_⟩ := trl _ _ (by omega) ho2 hl2;rw [h3]; simp; omega
  have hlt : ∀ (j : Nat) (o : IOp),is[j]? = some o → o.k.lays = true → ∀ i,j < i → i + 1 ≤ is.length → (Hs j).length < (Hs i).length := by
    intro j o hjo hl i hji hi;have := hsl j o hjo hl (i - (j + 1)) (by omega)
    rwa [show j + 1 + (i - (j + 1)) = i by omega] at this
  have hxset : ∀ (l : Array Bool) (j : Nat) (o : IOp),j < l.size → is[j]? = some o → ∀ i,i + 1 ≤ is.length → hx is Hs (l.setIfInBounds j true) i = if o.k.lays = true ∧ j < i then (hx is Hs l i).set (Hs j).length ((Hs (j + 1)).getD (Hs j).length (0,[])) else hx is Hs l i := by
    intro l j o hj hjo i
    induction i with
    | zero => intro _; rw [if_neg (fun h => by omega)]; rfl
    | succ i ih =>
      intro hi;have ho := List.getElem?_eq_getElem (l := is) (i := i) (by omega);have ih := ih (by omega);have hlen := hxlen l i (by omega);simp only [hx,ho]
      by_cases hji : i = j
      · subst hji;have hset : (l.setIfInBounds i true).getD i false = true := by simp [Array.getD_eq_getD_getElem?,hj]
        rw [ho] at hjo;have hoo : is[i] = o := Option.some.inj hjo;rw [ih,hoo,if_neg (show ¬ (o.k.lays = true ∧ i < i) from fun h => by have := h.2; omega)]
        by_cases hl : o.k.lays = true
        · rw [if_pos hl,if_pos hl,if_pos hset,if_pos (show o.k.lays = true ∧ i < i + 1 from ⟨hl,Nat.lt_succ_self i⟩),List.set_append_right _ _ (by omega)]
          simp [hlen]
        · rw [if_neg hl,if_neg hl,if_neg (fun h => hl h.1)]
      · rw [getD_set_ne false (fun h => hji h.symm),ih]
        by_cases hc : o.k.lays = true ∧ j < i
        · rw [if_pos hc,if_pos (show o.k.lays = true ∧ j < i + 1 from ⟨hc.1,by omega⟩)];have hltt : (Hs j).length < (hx is Hs l i).length := by rw [hlen]; exact hlt j o hjo hc.1 i hc.2 (by omega)
          by_cases hl : is[i].k.lays = true
          · rw [if_pos hl,if_pos hl,List.set_append_left _ _ hltt]
          · rw [if_neg hl,if_neg hl]
        · rw [if_neg hc,if_neg (show ¬ (o.k.lays = true ∧ j < i + 1) from fun h => hc ⟨h.1,by have := h.2; omega⟩)]
  let Inv := fun (l : Array Bool) (wr : Nat → Prop) (W : World) (own : Own) =>
    (l.getD (is.length - 1) false = true → St wr W own Hn) ∧ (l.getD (is.length - 1) false = false → St wr W own (hx is Hs l (is.length - 1)) ∧ ∀ (j : Nat) (o : IOp),j + 1 < is.length → is[j]? = some o → o.k.lays = true → l.getD j false = false → Dead own (Hs j).length)
  let listedP := fun (l : Array Bool) (i : Nat) => l.getD i false = true
  suffices key : ∀ (fuel : Nat) (l : Array Bool) (a : Act) (W : World) (wr : Nat → Prop) (own : Own),l.size = ops.size → Ext wr0 W0 own0' wr W own →
      (∀ (i : Nat) (o : Oper) (e : Edge),l.getD i false = true → ops[i]? = some o → e ∈ o.after.toList → Region.binds .any e = true → l.getD e.on false = true) →
      Inv l wr W own → env0.length ≤ a.tmps.size → a.defers = a0.defers →
      (∀ (t : Nat),(∀ (j : Nat) (o : IOp),is[j]? = some o → o.dst ≠ some t) → VR wr W own (env0.getD t .un) (a.tmps.getD t undef)) →
      (∀ (t j : Nat) (o : IOp),is[j]? = some o → o.dst = some t → VR wr W own (if l.getD j false = true then envn.getD t .un else env0.getD t .un) (a.tmps.getD t undef)) →
      ((List.range ops.size).filter (fun i => !l.getD i false)).length ≤ fuel →
      wpAny P .any ops Q fuel l a W by
    have hf : ∀ (j : Nat),(Array.replicate ops.size false).getD j false = false := by
      intro j;simp only [Array.getD_eq_getD_getElem?,Array.getElem?_replicate]; split <;> rfl
    refine key ops.size _ a0 W0 wr0 own0' (by simp) (Ext.refl _ _ _) ?_ ⟨fun h => (by rw [hf] at h; cases h),fun _ => ⟨?_,fun j o hj ho hl _ => ?_⟩⟩ s0.sz rfl (fun t _ => s0.vals t) ?_ ?_
    · intro i o e hl;have : (Array.replicate ops.size false).getD i false = false := by
        simp only [Array.getD_eq_getD_getElem?,Array.getElem?_replicate]; split <;> rfl
      rw [this] at hl; cases hl
    · have all : ∀ i,i + 1 ≤ is.length → St wr0 W0 own0' (hx is Hs (Array.replicate ops.size false) i) := by
        intro i
        induction i with
        | zero => intro _; simp only [hx]; rw [t2]; exact s0.st
        | succ i ih =>
          intro hi;have ho := List.getElem?_eq_getElem (l := is) (i := i) (by omega);simp only [hx,ho,hf];cases is[i].k.lays
          · exact ih (by omega)
          · exact (ih (by omega)).hole
      exact all _ (by omega)
    · have hle : H0.length ≤ (Hs j).length := by
        have all : ∀ i,i + 1 ≤ is.length → H0.length ≤ (Hs i).length := by
          intro i
          induction i with
          | zero => intro _; rw [t2]; exact Nat.le_refl _
          | succ i ih =>
            intro hi;have ho2 := List.getElem?_eq_getElem (l := is) (i := i) (by omega);have := ih (by omega);cases hl2 : is[i].k.lays
            · rw [trq _ _ (by omega) ho2 hl2]; exact this
            · obtain ⟨_,b,_,_,h3,_⟩ := trl _ _ (by omega) ho2 hl2;rw [h3]; simp; omega
        exact all j (by omega)
      intro g;cases ho' : own0' (Hs j).length g with
      | none => rfl
      | some x => have := (s0.st.fut _ _ _ ho').1; omega
    · intro t j o _ _;have : (Array.replicate ops.size false).getD j false = false := by
        simp only [Array.getD_eq_getD_getElem?,Array.getElem?_replicate]; split <;> rfl
      rw [this]; simpa using s0.vals t
    · exact Nat.le_trans (List.length_filter_le _ _) (by simp)
  have precLt : ∀ j i,Prec ops j i → j < i := by
    intro j i h
    induction h with
    | edge ho he hb => exact hd.edge _ _ _ ho he hb
    | step ho he hb h ih => exact Nat.lt_trans ih (hd.edge _ _ _ ho he hb)
  have precIn : ∀ (l : Array Bool),(∀ (i : Nat) (o : Oper) (e : Edge),l.getD i false = true → ops[i]? = some o → e ∈ o.after.toList → Region.binds .any e = true → l.getD e.on false = true) →
      ∀ j i,Prec ops j i → (∀ (o : Oper) (e : Edge),ops[i]? = some o → e ∈ o.after.toList → Region.binds .any e = true → l.getD e.on false = true) → l.getD j false = true := by
    intro l hcl j i h
    induction h with
    | edge ho he hb => intro hi; exact hi _ _ ho he hb
    | step ho he hb h ih => intro hi; exact ih (fun o e h1 h2 h3 => hcl _ o e (hi _ _ ho he hb) h1 h2 h3)
  have finish : ∀ (l : Array Bool) (a : Act) (W : World) (wr : Nat → Prop) (own : Own),Ext wr0 W0 own0' wr W own →
      Inv l wr W own → env0.length ≤ a.tmps.size → a.defers = a0.defers →
      (∀ (t : Nat),(∀ (j : Nat) (o : IOp),is[j]? = some o → o.dst ≠ some t) → VR wr W own (env0.getD t .un) (a.tmps.getD t undef)) →
      (∀ (t j : Nat) (o : IOp),is[j]? = some o → o.dst = some t → VR wr W own (if l.getD j false = true then envn.getD t .un else env0.getD t .un) (a.tmps.getD t undef)) →
      (∀ i,i < ops.size → l.getD i false = true) → Q .normal a W := by
    intro l a W wr own hext hs hsz hdf hv1 hv2 hall;refine hQ a W wr own hext ⟨?_,?_,?_⟩ hdf
    · exact hs.1 (hall _ (by omega))
    · intro t
      by_cases ht : ∃ (j : Nat) (o : IOp),is[j]? = some o ∧ o.dst = some t
      · obtain ⟨j,o,hj,hdj⟩ := ht;have := hv2 t j o hj hdj
        rwa [if_pos (hall j (by rw [← hlen]; exact (List.getElem?_eq_some_iff.mp hj).1))] at this
      · have hno : ∀ (j : Nat) (o : IOp),is[j]? = some o → o.dst ≠ some t := fun j o hj hdj => ht ⟨j,o,hj,hdj⟩
        have := envAt t hno is.length (Nat.le_refl _);rw [t3] at this;rw [this]; exact hv1 t hno
    · have := lenE is.length (Nat.le_refl _);rw [t3] at this; rw [this]; exact hsz
  have allOf : ∀ (l : Array Bool),l.size = ops.size → Region.ready .any ops l = [] → ∀ i,i < ops.size → l.getD i false = true := by
    intro l hl hr i
    induction i using Nat.strongRecOn with
    | _ i ih =>
      intro hi;cases hli : l.getD i false with
      | true => rfl
      | false =>
        exfalso
        have hm : i ∈ Region.ready .any ops l := by
          rw [mem_ready];refine ⟨?_,ops[i],by simp,fun e he hb => ?_⟩
          · simp only [Array.getD_eq_getD_getElem?] at hli ⊢;have : i < l.size := by omega
            simp [this] at hli ⊢; exact hli
          · have hlt := hd.edge i ops[i] e (by simp) (by simpa using he) hb;exact ih e.on hlt (by omega)
        rw [hr] at hm; simp at hm
  intro fuel
  induction fuel with
  | zero =>
    intro l a W wr own hl hext hcl hs hsz hdf hv1 hv2 hm;have hall : ∀ i,i < ops.size → l.getD i false = true := by
      intro i hi;have hnil : (List.range ops.size).filter (fun i => !l.getD i false) = [] := List.eq_nil_of_length_eq_zero (by omega);have := List.filter_eq_nil_iff.mp hnil i (by simpa using hi)
      simpa using this
    refine ⟨?_,finish l a W wr own hext hs hsz hdf hv1 hv2 hall⟩;apply List.eq_nil_iff_forall_not_mem.mpr;intro i hi;rw [mem_ready] at hi;obtain ⟨h0,o,ho,_⟩ := hi;have hlt : i < ops.size := (Array.getElem?_eq_some_iff.mp ho).1;have := hall i hlt;simp only [Array.getD_eq_getD_getElem?] at this h0;have hi' : i < l.size := by omega
    simp [hi'] at this h0
    rw [this] at h0; cases h0
  | succ fuel ih =>
    intro l a W wr own hl hext hcl hs hsz hdf hv1 hv2 hm;refine ⟨fun hr => finish l a W wr own hext hs hsz hdf hv1 hv2 (allOf l hl hr),?_⟩;intro i hi;rw [mem_ready] at hi;obtain ⟨hi0,o,ho,hpre⟩ := hi;have hilt : i < ops.size := (Array.getElem?_eq_some_iff.mp ho).1;have hio := List.getElem?_eq_getElem (l := is) (i := i) (by omega)
    generalize hgen : is[i] = io at hio
    have hli : l.getD i false = false := by
      simp only [Array.getD_eq_getD_getElem?] at hi0 ⊢;have hi' : i < l.size := by omega
      simp [hi'] at hi0 ⊢; exact hi0
    have hpre' : ∀ (o' : Oper) (e : Edge),ops[i]? = some o' → e ∈ o'.after.toList → Region.binds .any e = true → l.getD e.on false = true := by
      intro o' e ho' he hb;rw [ho] at ho'; cases ho';exact hpre e (by simpa using he) hb
    have cmpr : ∀ j,j ≠ i → Prec ops j i ∨ Prec ops i j → (l.getD j false = true ↔ j < i) := by
      intro j hji hc;rcases hc with hc | hc
      · have h1 := precLt _ _ hc;have h2 := precIn l hcl _ _ hc hpre'
        simp [h1,h2]
      · have h1 := precLt _ _ hc
        constructor
        · intro hlj;have := precIn l hcl _ _ hc (fun o' e h1 h2 h3 => hcl j o' e hlj h1 h2 h3);rw [hli] at this; cases this
        · intro h; omega
    let val : Nat → V := fun t => @ite _ (∃ (j : Nat) (o : IOp),is[j]? = some o ∧ o.dst = some t ∧ l.getD j false = true) (Classical.propDecidable _) (envn.getD t .un) (env0.getD t .un)
    have val1 : ∀ t,(∀ (j : Nat) (o : IOp),is[j]? = some o → o.dst ≠ some t) → val t = env0.getD t .un := by
      intro t ht;simp only [val];rw [if_neg];rintro ⟨j,o,hj,hdj,_⟩;exact ht j o hj hdj
    have val2 : ∀ (t j : Nat) (o : IOp),is[j]? = some o → o.dst = some t → val t = if l.getD j false = true then envn.getD t .un else env0.getD t .un := by
      intro t j o hj hdj;simp only [val]
      by_cases hlj : l.getD j false = true
      · rw [if_pos hlj,if_pos ⟨j,o,hj,hdj,hlj⟩]
      · rw [if_neg hlj,if_neg];rintro ⟨j',o',hj',hdj',hlj'⟩;have := hd.dst _ _ _ _ _ hj hj' hdj hdj';subst this;exact hlj hlj'
    let ES := (List.range env0.length).map val
    have hlenn : envn.length = env0.length := by have := lenE is.length (Nat.le_refl _); rwa [t3] at this
    have valout : ∀ t,env0.length ≤ t → val t = .un := by
      intro t ht;simp only [val]
      split
      · simp [List.getD,List.getElem?_eq_none (show envn.length ≤ t by omega)]
      · simp [List.getD,List.getElem?_eq_none ht]
    have ESget : ∀ t,ES.getD t .un = val t := by
      intro t
      by_cases ht : t < env0.length
      · simp [ES,List.getD,ht]
      · rw [valout t (by omega)]
        simp [ES,List.getD,ht]
    have ESvr : ∀ t,VR wr W own (ES.getD t .un) (a.tmps.getD t undef) := by
      intro t;rw [ESget]
      by_cases ht : ∃ (j : Nat) (o : IOp),is[j]? = some o ∧ o.dst = some t
      · obtain ⟨j,o,hj,hdj⟩ := ht;rw [val2 t j o hj hdj]; exact hv2 t j o hj hdj
      · have hno : ∀ (j : Nat) (o : IOp),is[j]? = some o → o.dst ≠ some t := fun j o hj hdj => ht ⟨j,o,hj,hdj⟩
        rw [val1 t hno]; exact hv1 t hno
    have hile : i ≤ is.length := by omega
    have hagree : Agree (E i) ES io.tm := by
      intro t ht;rw [ESget]
      by_cases htw : ∃ (j : Nat) (o : IOp),is[j]? = some o ∧ o.dst = some t
      · obtain ⟨j,o',hj,hdj⟩ := htw;rw [val2 t j o' hj hdj,envAt2 t j o' hj hdj i hile]
        by_cases hji : j = i
        · subst hji; simp [hli]
        · have := cmpr j hji (hd.nam i j t io o' (Ne.symm hji) hio hj hdj ht)
          by_cases hji' : j < i
          · rw [if_pos hji',if_pos (this.mpr hji')]
          · rw [if_neg hji',if_neg (fun h => hji' (this.mp h))]
      · have hno : ∀ (j : Nat) (o : IOp),is[j]? = some o → o.dst ≠ some t := fun j o hj hdj => htw ⟨j,o,hj,hdj⟩
        rw [val1 t hno,envAt t hno i hile]
    obtain ⟨v,e1,e2,_⟩ := exOp_congr (H2 := Hs i) (t5 i io hio) hagree (fun _ => rfl);have hchk := c2 i o io (by simpa using ho) hio;have hsetlen : (put ES io.dst v).length = env0.length := by cases io.dst <;> simp [put,ES]
    have hpn : i < is.length := by omega
    have hls : i < l.size := by omega
    have hdo : o.dst = io.dst := by
      simp only [chkOp,Bool.and_eq_true,beq_iff_eq] at hchk; exact hchk.1.1
    have hko : chkK P o.op io.k = true := by
      simp only [chkOp,Bool.and_eq_true,beq_iff_eq] at hchk; exact hchk.1.2
    have hgo : io.guard = none → o.guard = none := by
      intro hg;simp only [chkOp,Bool.and_eq_true,hg] at hchk;have := hchk.2
      split at this
      · rename_i h _; exact h
      · rename_i h; cases h
      · cases this
    have goon : ∀ a' W' wr' own',Ext wr W own wr' W' own' → Inv (l.setIfInBounds i true) wr' W' own' → (∀ t,VR wr' W' own' ((put ES io.dst v).getD t .un) (a'.tmps.getD t undef)) → (put ES io.dst v).length ≤ a'.tmps.size → a'.defers = a.defers → wpAny P .any ops Q fuel (l.setIfInBounds i true) a' W' := by
     intro a' W' wr' own' x1 x2 xv xs x3;refine ih (l.setIfInBounds i true) a' W' wr' own' (by simpa using hl) (hext.trans x1) ?_ x2 (by rw [← hsetlen]; exact xs) (by rw [x3,hdf]) ?_ ?_ ?_
     · intro k o' e hk ho' he hb
       by_cases hki : k = i
       · subst hki; exact getD_set_true (hpre' o' e ho' he hb)
       · rw [getD_set_ne false (Ne.symm hki)] at hk;exact getD_set_true (hcl k o' e hk ho' he hb)
     · intro t ht;have hne : io.dst ≠ some t := ht i io hio;have := xv t;have e : (put ES io.dst v).getD t .un = ES.getD t .un := by
         cases hdd : io.dst with
         | none => rfl
         | some d =>
           have hdt : d ≠ t := by rintro rfl; exact hne hdd
           simp [put,List.getD,List.getElem?_set_ne hdt]
       rw [e,ESget,val1 t ht] at this;exact this
     · intro t j o' hj hdj;have := xv t
       by_cases hji : j = i
       · subst hji;rw [hio] at hj; cases hj;have hi' : j < l.size := by omega
         have hlj : (l.setIfInBounds j true).getD j false = true := by simp [Array.getD_eq_getD_getElem?,hi']
         rw [if_pos hlj];have q1 := envAt2 t j io hio hdj (j + 1) (by omega);rw [if_pos (Nat.lt_succ_self j),e1] at q1;have q2 : (put ES io.dst v).getD t .un = (put (E j) io.dst v).getD t .un := by
           rw [hdj];simp only [put,List.getD];have l1 : ES.length = env0.length := by simp [ES]
           have l2 := lenE j (by omega)
           by_cases ht : t < env0.length
           · rw [List.getElem?_set_self (by omega),List.getElem?_set_self (by omega)]
           · rw [List.getElem?_eq_none (by simp; omega),List.getElem?_eq_none (by simp; omega)]
         rw [q2,q1] at this;exact this
       · have hdne : io.dst ≠ some t := fun h => hji (hd.dst _ _ _ _ _ hj hio hdj h)
         have e : (put ES io.dst v).getD t .un = ES.getD t .un := by
           cases hdd : io.dst with
           | none => rfl
           | some d =>
             have hdt : d ≠ t := by rintro rfl; exact hdne hdd
             simp [put,List.getD,List.getElem?_set_ne hdt]
         rw [e,ESget,val2 t j o' hj hdj] at this;rw [getD_set_ne false (Ne.symm hji)];exact this
     · have hsub : (List.range ops.size).filter (fun k => !(l.setIfInBounds i true).getD k false) = ((List.range ops.size).filter (fun k => !l.getD k false)).filter (fun k => k != i) := by
         rw [List.filter_filter];apply List.filter_congr;intro k hk
         by_cases hki : k = i
         · subst hki;have hi' : k < l.size := by omega
           have e : (l.setIfInBounds k true).getD k false = true := by simp [Array.getD_eq_getD_getElem?,hi']
           rw [e]; simp
         · rw [getD_set_ne false (Ne.symm hki)]
           simp [hki]
       rw [hsub];have : (((List.range ops.size).filter (fun k => !l.getD k false)).filter (fun k => k != i)).length < ((List.range ops.size).filter (fun k => !l.getD k false)).length := by
         rw [List.length_filter_lt_length_iff_exists];exact ⟨i,List.mem_filter.mpr ⟨by simpa using hilt,by rw [hli]; rfl⟩,by simp⟩
       omega
    unfold wpOp;rw [ho]
    dsimp only
    by_cases hlast : i + 1 = is.length
    · -- the last one
      have hin : i = is.length - 1 := by omega
      have hbefore : ∀ j,j < i → l.getD j false = true := fun j hj => precIn l hcl j i (hd.last i j hlast hj) hpre'
      have hst := (hs.2 (by rw [← hin]; exact hli)).1;rw [hxall l _ (by omega) (fun j hj => hbefore j (by omega)),← hin] at hst;obtain ⟨v',e1',e2',e3⟩ := exOp_congr (H2 := Hs i) (t5 i io hio) hagree (fun _ => rfl);have hvv : put ES io.dst v' = put ES io.dst v := by
        have : put (E i) io.dst v' = put (E i) io.dst v := e1'.symm.trans e1;cases hdd : io.dst with
        | none => rfl
        | some d =>
          rw [hdd] at this;simp only [put] at this ⊢
          by_cases hdl : d < env0.length
          · have h1 := congrArg (fun l => l[d]?) this;have l2 := lenE i (by omega);simp only [List.getElem?_set_self (show d < (E i).length by omega)] at h1;rw [Option.some.inj h1]
          · rw [List.set_eq_of_length_le (by simp [ES]; omega),List.set_eq_of_length_le (by simp [ES]; omega)]
      have hHn : (if io.k.quiet then Hs i else Hs (i + 1)) = Hn := by
        rw [← t4,← hlast];cases hq : io.k.quiet
        · rfl
        · exact (e2 hq).symm
      rw [hHn,hvv] at e3;refine exOp_sim hF hchk ⟨hst,ESvr,by simpa [ES] using hsz⟩ e3 (fun a' W' wr' own' x1 x2 x3 => ?_);refine goon a' W' wr' own' x1 ⟨fun _ => x2.st,fun h => ?_⟩ x2.vals x2.sz x3;rw [← hin] at h;have : (l.setIfInBounds i true).getD i false = true := by simp [Array.getD_eq_getD_getElem?,hls]
      rw [this] at h; cases h
    · have hil : i + 1 < is.length := by omega
      have hn1f : (l.setIfInBounds i true).getD (is.length - 1) false = l.getD (is.length - 1) false := getD_set_ne false (by omega);have hn1l : l.getD (is.length - 1) false = false := by
        cases hq : l.getD (is.length - 1) false with
        | false => rfl
        | true =>
          exfalso
          have := precIn l hcl i (is.length - 1) (hd.last _ i hn1 (by omega)) (fun o' e h1 h2 h3 => hcl _ o' e hq h1 h2 h3);rw [hli] at this; cases this
      obtain ⟨hst,hdead⟩ := hs.2 hn1l;have hset := hxset l i io hls hio (is.length - 1) (by omega);rcases hd.low i io hio hil with ⟨hlay,hg⟩ | ⟨hq,hnh,hg⟩
      · -- a block is laid
        rw [if_pos (by simp [Region.wanted,hgo hg])];refine .inl ?_;obtain ⟨v',b,w1,w2,w3,_⟩ := trl i io hil hio hlay;have hvv : evw F ES (Hs i) io.k = some (v',Hs i ++ [b]) := by
          have hk : Agree (E i) ES io.k.tm := hagree.sub (fun t ht => by simp [IOp.tm,ht]);rw [← evw_congr hk]; exact w1
        have hpv : put ES io.dst v' = put ES io.dst v := by
          have : put (E i) io.dst v' = put (E i) io.dst v := w2.symm.trans e1;cases hdd : io.dst with
          | none => rfl
          | some d =>
            rw [hdd] at this;simp only [put] at this ⊢
            by_cases hdl : d < env0.length
            · have h1 := congrArg (fun l => l[d]?) this;have l2 := lenE i (by omega);simp only [List.getElem?_set_self (show d < (E i).length by omega)] at h1;rw [Option.some.inj h1]
            · rw [List.set_eq_of_length_le (by simp [ES]; omega),List.set_eq_of_length_le (by simp [ES]; omega)]
        have hpos : (Hs i).length < (hx is Hs l (is.length - 1)).length := by
          rw [hxlen l _ (by omega)];exact hlt i io hio hlay _ (by omega) (by omega)
        have hblk : (Hs (i + 1)).getD (Hs i).length (0,[]) = b := by rw [w3]; simp [List.getD]
        rw [if_pos ⟨hlay,by omega⟩,hblk] at hset;refine lays_fill hlay hko hst hpos (hdead i io hil hio hlay hli) ESvr hvv (fun v2 W' wr' own' x1 x2 x3 x4 => ?_);rw [hdo];obtain ⟨p1,p2,p3⟩ := put_sim (Sim.mono hst x1 ESvr) (by simpa [ES] using hsz) x3 io.dst;rw [hpv] at p1 p2;refine goon _ W' wr' own' x1 ⟨fun h => ?_,fun _ => ⟨by rw [hset]; exact x2,fun j oj hj hoj hlj hljf => ?_⟩⟩ p1 p2 p3
        · rw [hn1f,hn1l] at h; cases h
        · have hji : j ≠ i := by
            rintro rfl;have : (l.setIfInBounds j true).getD j false = true := by simp [Array.getD_eq_getD_getElem?,hls]
            rw [this] at hljf; cases hljf
          rw [getD_set_ne false (Ne.symm hji)] at hljf;refine x4 _ ?_ (hdead j oj hj hoj hlj hljf);rcases Nat.lt_or_gt_of_ne hji with h | h
          · have := hlt j oj hoj hlj i h (by omega); omega
          · have := hlt i io hio hlay j h (by omega); omega
      · -- one that lays nothing and asks nothing of memory
        rw [if_pos (by simp [Region.wanted,hgo hg])];refine .inl ?_;obtain ⟨v',e1',_,e3⟩ := exOp_congr (H2 := hx is Hs l (is.length - 1)) (t5 i io hio) hagree (fun h => by rw [hnh] at h; cases h);have hnl : io.k.lays = false := by
          cases hl2 : io.k.lays with
          | false => rfl
          | true => rw [lays_quiet hl2] at hq; cases hq
        rw [if_neg (by rw [hnl]; simp)] at hset;unfold exOp at e3;rw [hg] at e3;simp only at e3;unfold exK at e3;rw [if_pos hq] at e3;simp only [Option.map_eq_some_iff,Prod.mk.injEq] at e3;obtain ⟨v3,hev,hp3,_⟩ := e3;have hpv : put ES io.dst v3 = put ES io.dst v := by
          rw [hp3];have : put (E i) io.dst v' = put (E i) io.dst v := e1'.symm.trans e1;cases hdd : io.dst with
          | none => rfl
          | some d =>
            rw [hdd] at this;simp only [put] at this ⊢
            by_cases hdl : d < env0.length
            · have h1 := congrArg (fun l => l[d]?) this;have l2 := lenE i (by omega);simp only [List.getElem?_set_self (show d < (E i).length by omega)] at h1;rw [Option.some.inj h1]
            · rw [List.set_eq_of_length_le (by simp [ES]; omega),List.set_eq_of_length_le (by simp [ES]; omega)]
        have hrd : Rd wr W own (if io.lo then [] else hx is Hs l (is.length - 1)) := by split; exact Rd.nil hst.wr_lt hst.glob; exact hst.toRd
        refine evq_sim hF hko hq hrd ESvr hev (fun v2 W' hgl hvr => ?_);rw [hdo];obtain ⟨p1,p2,p3⟩ := put_sim (wr := wr) (W := W') (own := own) (fun t => (ESvr t).gl hgl) (by simpa [ES] using hsz) hvr io.dst;rw [hpv] at p1 p2;refine goon _ W' wr own (Ext.of_gl hgl) ⟨fun h => ?_,fun _ => ⟨by rw [hset]; exact hst.gl hgl,fun j oj hj hoj hlj hljf => ?_⟩⟩ p1 p2 p3
        · rw [hn1f,hn1l] at h; cases h
        · have hji : j ≠ i := by rintro rfl; rw [hio] at hoj; cases hoj; rw [hnl] at hlj; cases hlj
          rw [getD_set_ne false (Ne.symm hji)] at hljf;exact hdead j oj hj hoj hlj hljf
end
end Go.Eng
