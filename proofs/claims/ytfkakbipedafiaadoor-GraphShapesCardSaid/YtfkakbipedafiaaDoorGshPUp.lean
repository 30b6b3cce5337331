/- Functions of this seat, run on unknown values by the rules of the small machine (no condition beyond those stated). -/
import Derived.Test.YtfkakbipedafiaaDoorGshF
import Derived.Test.YtfkakbipedafiaaDoorGshOUp
import Derived.Test.YtfkakbipedafiaaDoorGshTyUp
namespace Go.Eng.Gra
open Go Go.Eng
set_option linter.unusedSectionVars false
set_option linter.unusedVariables false
set_option linter.unusedSimpArgs false
abbrev Sz {α : Type} (l : List α) : Prop := l.length ≤ 140737488355328
theorem lt_dec {n : Nat} {i : Nat} (h : i < n) : decide ((i : Int) < (n : Int)) = true := decide_eq_true (by omega)
theorem ge_dec (n : Nat) : decide ((n : Int) < (n : Int)) = false := decide_eq_false (by omega)
theorem lt_of {α : Type} {l : List α} {i : Nat} {a : α} (h : l[i]? = some a) : i < l.length := (List.getElem?_eq_some_iff.mp h).1
structure SzG (g : T_Graph) : Prop where
  params : Sz g.fParams
  vars : Sz g.fVars
  arrays : Sz g.fArrays
  blocks : Sz g.fBlocks
  ins : ∀ b ∈ g.fBlocks,Sz b.fIns
  args : ∀ b ∈ g.fBlocks,∀ x ∈ b.fIns,Sz x.fArgs
  bits : ∀ b ∈ g.fBlocks,∀ x ∈ b.fIns,0 ≤ x.fBits ∧ x.fBits < 18446744073709551616
structure Small (g : T_Graph) : Prop where
  blocks : g.fBlocks.length ≤ 400
  ins : ∀ b ∈ g.fBlocks,b.fIns.length ≤ 2000
theorem F12_is (g : T_Graph) (hs : SzG g) : ∃ b,F12 g = some b ∧ (b = false → Small g) := by
  unfold F12
  by_cases h1 : ((List.length g.fBlocks : Nat) : Int) > 400
  · exact ⟨true,by rw [decide_eq_true h1]; rfl,fun h => by cases h⟩
  rw [decide_eq_false h1];simp only [Bool.false_eq_true,if_false];cases decide (((List.length g.fVars : Nat) : Int) > 2000)
  case true => exact ⟨true,rfl,fun h => by cases h⟩
  cases decide (((List.length g.fArrays : Nat) : Int) > 2000)
  case true => exact ⟨true,rfl,fun h => by cases h⟩
  cases decide (((List.length g.fParams : Nat) : Int) > 2000)
  case true => exact ⟨true,rfl,fun h => by cases h⟩
  simp only [Bool.false_eq_true,if_false];have key : ∃ o,iter (fun s : (Int × Int) => F12_1_b g s.1 s.2) FUEL ((0 : Int),(0 : Int)) = some o ∧ (o = .ret true ∨ o = .go () ∧ ∀ b ∈ g.fBlocks,b.fIns.length ≤ 2000) := by
    refine iter_ok (I := fun m s => ∃ i : Nat,i ≤ g.fBlocks.length ∧ m = g.fBlocks.length - i ∧ s.2 = (i : Int) ∧ 0 ≤ s.1 ∧ s.1 ≤ 2000 ∧ ∀ (j : Nat) b,j < i → g.fBlocks[j]? = some b → b.fIns.length ≤ 2000) ?_ FUEL g.fBlocks.length _ ⟨0,by omega,by omega,rfl,by decide,by decide,fun j b h => by omega⟩ (by unfold FUEL; omega);rintro m ⟨n,i'⟩ ⟨i,hi,rfl,hi',hn0,hn1,hall⟩;simp only at hi' hn0 hn1;subst hi';unfold F12_1_b
    by_cases hil : i < g.fBlocks.length
    · have hb : g.fBlocks[i]? = some g.fBlocks[i] := List.getElem?_eq_getElem hil
      generalize g.fBlocks[i] = b at hb
      have hmem : b ∈ g.fBlocks := List.mem_of_getElem? hb;have hbi := hs.ins b hmem;unfold Sz at hbi;have hw : IntKind.i64.wrap (n + ((List.length b.fIns : Nat) : Int)) = n + ((List.length b.fIns : Nat) : Int) := wrap64_in (by omega) (by omega);simp only [lt_dec hil,if_true,idx_some hb,Option.bind_some,hw];have hin : ∃ o,iter (fun s : (Int × Int) => F12_2_b g (i : Int) s.1 s.2) FUEL (n + ((List.length b.fIns : Nat) : Int),(0 : Int)) = some o ∧ ∃ v,o = .go v ∧ n + ((List.length b.fIns : Nat) : Int) ≤ v := by
        refine iter_ok (I := fun m s => ∃ k : Nat,k ≤ b.fIns.length ∧ m = b.fIns.length - k ∧ s.2 = (k : Int) ∧ n + ((List.length b.fIns : Nat) : Int) ≤ s.1 ∧ s.1 ≤ 562949953421312) ?_ FUEL b.fIns.length _ ⟨0,by omega,by omega,rfl,by simp,by simp only; omega⟩ (by unfold FUEL; omega);rintro m ⟨v,k'⟩ ⟨k,hk,rfl,hk',hv0,hv1⟩;simp only at hk' hv0 hv1;subst hk';unfold F12_2_b;simp only [idx_some hb,Option.bind_some]
        by_cases hkl : k < b.fIns.length
        · have hx : b.fIns[k]? = some b.fIns[k] := List.getElem?_eq_getElem hkl
          generalize b.fIns[k] = x at hx
          have hxa := hs.args b hmem x (List.mem_of_getElem? hx);unfold Sz at hxa;simp only [lt_dec hkl,if_true,idx_some hx,Option.bind_some]
          by_cases hv : v ≤ 2000
          · rw [decide_eq_true hv];have hw2 : IntKind.i64.wrap (v + ((List.length x.fArgs : Nat) : Int)) = v + ((List.length x.fArgs : Nat) : Int) := wrap64_in (by omega) (by omega);refine ⟨_,rfl,b.fIns.length - (k + 1),by omega,k + 1,by omega,rfl,wnat (by omega),?_,?_⟩
            · simp only [hw2]; omega
            · simp only [hw2]; omega
          · rw [decide_eq_false hv];exact ⟨_,rfl,v,rfl,hv0⟩
        · have : k = b.fIns.length := by omega
          subst this;simp only [ge_dec,Bool.false_eq_true,if_false];exact ⟨_,rfl,v,rfl,hv0⟩
      obtain ⟨o,ho,v,rfl,hv⟩ := hin;rw [ho,Option.bind_some]
      by_cases hv2 : v > 2000
      · exact ⟨.ret true,by simp only [decide_eq_true hv2,if_true],.inl rfl⟩
      · refine ⟨.next (v,IntKind.i64.wrap ((i : Int) + 1)),by simp only [decide_eq_false hv2,Bool.false_eq_true,if_false],g.fBlocks.length - (i + 1),by omega,i + 1,by omega,rfl,wnat (by omega),by simp only; omega,by simp only; omega,fun j c hj hc => ?_⟩
        by_cases hji : j = i
        · subst hji; rw [hb] at hc; cases hc; omega
        · exact hall j c (by omega) hc
    · have : i = g.fBlocks.length := by omega
      subst this;simp only [ge_dec,Bool.false_eq_true,if_false];refine ⟨_,rfl,.inr ⟨rfl,fun b hb => ?_⟩⟩;obtain ⟨j,hj,rfl⟩ := List.mem_iff_getElem.mp hb;exact hall j _ hj (List.getElem?_eq_getElem hj)
  obtain ⟨o,ho,h | ⟨h,hall⟩⟩ := key
  · rw [ho,h]; exact ⟨true,rfl,fun h => by cases h⟩
  · rw [ho,h]; exact ⟨false,rfl,fun _ => ⟨by omega,hall⟩⟩
theorem awake9 : F9 = some true := by kernel_rfl
end Go.Eng.Gra
namespace Go.Eng.Gra
open Go Go.Eng
set_option linter.unusedSectionVars false
set_option linter.unusedVariables false
set_option linter.unusedSimpArgs false
theorem next_nodup (b : T_Block) : (nextV b).Nodup := by
  unfold nextV
  split
  · simp
  · split
    · split
      · simp
      · rename_i h
        split
        · simp [h]
        · simp; exact fun e => h e.symm
    · simp
theorem next_mem (b : T_Block) (k : Int) : k ∈ nextV b ↔ ((goV b.fTerm 0 = true ∧ k = b.fTerm.fTo.a0) ∨ (goV b.fTerm 1 = true ∧ k = b.fTerm.fTo.a1)) := by
  unfold nextV goV
  by_cases h1 : b.fTerm.fKind = 1
  · simp [h1]
  · by_cases h2 : b.fTerm.fKind = 2
    · simp only [h1,h2,if_false,if_true]
      by_cases h3 : b.fTerm.fTo.a0 = b.fTerm.fTo.a1
      · simp [h3]
      · by_cases h4 : b.fTerm.fTo.a0 < b.fTerm.fTo.a1 <;> simp [h3,h4,or_comm]
    · simp [h1,h2]
def pk (bs : List T_Block) (k j : Nat) : Bool := match bs[j]? with | some b => decide ((k : Int) ∈ nextV b) | none => false
def rowP (bs : List T_Block) (i k : Nat) : List Int := ((List.range i).filter (pk bs k)).map (fun j : Nat => (j : Int))
theorem fold_get (n : Nat) (i : Int) : ∀ (l : List Int) (rows : List (List Int)) (k : Nat),l.Nodup → rows.length = n → k < n → (l.foldl (addR n i) rows)[k]? = (rows[k]?).map fun r => if (k : Int) ∈ l then r ++ [i] else r
  | [],rows,k,_,hl,hk => by simp
  | x :: l,rows,k,hnd,hl,hk => by
    rw [List.foldl_cons,fold_get n i l _ k (List.nodup_cons.mp hnd).2 (by rw [addR_len]; exact hl) hk];have hrk : rows[k]? = some rows[k] := List.getElem?_eq_getElem (by omega)
    by_cases hx : x = (k : Int)
    · subst hx;have hnl : ¬ (k : Int) ∈ l := (List.nodup_cons.mp hnd).1;rw [addR_in ⟨by omega,by omega⟩ (by simpa using by omega)]
      simp [hrk,hnl,show k < rows.length by omega]
    · have he : (addR n i rows x)[k]? = rows[k]? := by
        unfold addR; split
        · rw [List.getElem?_set_ne (by omega)]
        · rfl
      rw [he,hrk];have : ((k : Int) ∈ x :: l) ↔ (k : Int) ∈ l := List.mem_cons.trans ⟨fun h => h.resolve_left (fun e => hx e.symm),.inr⟩;simp only [Option.map_some,this]
theorem ahead_row (bs : List T_Block) : ∀ (i k : Nat),i ≤ bs.length → k < bs.length → (aheadS bs i)[k]? = some (rowP bs i k)
  | 0,k,_,hk => by simp [aheadS,rowP,hk]
  | i + 1,k,hi,hk => by
    have ih := ahead_row bs i k (by omega) hk;have hb : bs[i]? = some bs[i] := List.getElem?_eq_getElem (by omega);rw [aheadS_step hb,fold_get _ _ _ _ _ (next_nodup _) (aheadS_len bs i) hk,ih,Option.map_some];unfold rowP;rw [List.range_succ,List.filter_append,List.map_append];have hp : pk bs k i = decide ((k : Int) ∈ nextV bs[i]) := by unfold pk; rw [hb]
    by_cases hm : (k : Int) ∈ nextV bs[i]
    · rw [if_pos hm]; simp [hp,hm]
    · rw [if_neg hm]; simp [hp,hm]
theorem row_mem {bs : List T_Block} {k : Nat} {u : Int} : u ∈ rowP bs bs.length k ↔ ∃ b,0 ≤ u ∧ bs[u.toNat]? = some b ∧ (k : Int) ∈ nextV b := by
  unfold rowP;rw [List.mem_map]
  constructor
  · rintro ⟨j,hj,rfl⟩;rw [List.mem_filter] at hj;obtain ⟨h1,h2⟩ := hj;unfold pk at h2
    split at h2
    · rename_i b hb; exact ⟨b,by omega,by simpa using hb,of_decide_eq_true h2⟩
    · cases h2
  · rintro ⟨b,h0,hb,hm⟩;refine ⟨u.toNat,?_,by omega⟩;rw [List.mem_filter,List.mem_range];exact ⟨(List.getElem?_eq_some_iff.mp hb).1,by unfold pk; rw [hb]; exact decide_eq_true hm⟩
theorem row_up (bs : List T_Block) (i k : Nat) : (rowP bs i k).Pairwise (· < ·) := by
  unfold rowP;rw [List.pairwise_map];exact (List.Pairwise.filter _ List.pairwise_lt_range).imp (fun h => by omega)
def tot (rows : List (List Int)) : Nat := (rows.map List.length).sum
theorem tot_set : ∀ (l : List (List Int)) (j : Nat) (x : List Int) (h : j < l.length),tot (l.set j x) + l[j].length = tot l + x.length
  | [],j,x,h => by simp at h
  | a :: l,0,x,h => by simp [tot]; omega
  | a :: l,j + 1,x,h => by
    have := tot_set l j x (by simpa using h);simp only [tot,List.set_cons_succ,List.map_cons,List.sum_cons,List.getElem_cons_succ] at this ⊢
    omega
def inR (n : Nat) (k : Int) : Bool := decide (0 ≤ k ∧ k < (n : Int))
theorem tot_add {n : Nat} {i : Int} {rows : List (List Int)} (hl : rows.length = n) (k : Int) : tot (addR n i rows k) = tot rows + (if inR n k = true then 1 else 0) := by
  by_cases h : 0 ≤ k ∧ k < (n : Int)
  · have hk : k.toNat < rows.length := by omega
    rw [addR_in h hk];have := tot_set rows k.toNat (rows[k.toNat] ++ [i]) hk;rw [List.length_append,List.length_singleton] at this;simp only [inR,decide_eq_true h,if_true]; omega
  · rw [addR_out h]; simp [inR,h]
theorem tot_fold {n : Nat} {i : Int} : ∀ (l : List Int) {rows : List (List Int)} (hl : rows.length = n),tot (l.foldl (addR n i) rows) = tot rows + l.countP (inR n)
  | [],rows,hl => by simp
  | x :: l,rows,hl => by
    rw [List.foldl_cons,tot_fold l (by rw [addR_len]; exact hl),tot_add hl,List.countP_cons]; omega
def eds (bs : List T_Block) : Nat → Nat
  | 0 => 0
  | i + 1 => eds bs i + match bs[i]? with | some b => (nextV b).countP (inR bs.length) | none => 0
theorem tot_ahead (bs : List T_Block) : ∀ i,i ≤ bs.length → tot (aheadS bs i) = eds bs i
  | 0,_ => by simp [aheadS,eds,tot]
  | i + 1,hi => by
    have hb : bs[i]? = some bs[i] := List.getElem?_eq_getElem (by omega);rw [aheadS_step hb,tot_fold _ (aheadS_len bs i),tot_ahead bs i (by omega)];simp only [eds,hb]
theorem eds_le (bs : List T_Block) : ∀ i,eds bs i ≤ 2 * i
  | 0 => by simp [eds]
  | i + 1 => by
    have := eds_le bs i;simp only [eds]
    split
    · rename_i b _
      have h1 := next_le b;have h2 : (nextV b).countP (inR bs.length) ≤ (nextV b).length := List.countP_le_length
      omega
    · omega
end Go.Eng.Gra
namespace Go.Eng.Gra
open Go Go.Eng
set_option linter.unusedSectionVars false
set_option linter.unusedVariables false
set_option linter.unusedSimpArgs false
structure OrdOk (bs : List T_Block) (ord : List Int) : Prop where
  len : ord.length ≤ bs.length
  nd : ord.Nodup
  zero : 0 < bs.length → (0 : Int) ∈ ord
  rng : ∀ v ∈ ord,0 ≤ v ∧ v < (bs.length : Int)
  clo : ∀ u ∈ ord,∀ b,bs[u.toNat]? = some b → ∀ to,Edge bs b to → to ∈ ord
  prd : ∀ v ∈ ord,v = 0 ∨ ∃ u ∈ ord,∃ b,bs[u.toNat]? = some b ∧ Edge bs b v
theorem order_ok (g : T_Graph) (hN : g.fBlocks.length ≤ 400) : ∃ ord,orderV g = some ord ∧ OrdOk g.fBlocks ord := by
  unfold orderV
  by_cases h0 : g.fBlocks.length = 0
  · rw [if_pos h0];exact ⟨[],rfl,⟨by simp,List.nodup_nil,fun h => by omega,fun v h => by simp at h,fun u h => by simp at h,fun v h => by simp at h⟩⟩
  rw [if_neg h0]
  generalize g.fBlocks = bs at hN h0
  rw [made_nat (by omega) (by omega),Option.bind_some];have hget : ∀ v : Nat,v < bs.length → (List.replicate bs.length false)[v]? = some false := fun v hv => by simp [hv]
  have hcnt : (List.replicate bs.length false).count false = bs.length := by simp
  obtain ⟨met',new,h1,h2,h3,h4⟩ := walk_ok bs (bs.length + 1) (List.replicate bs.length false) [] 0 (by simp) (hget 0 (by omega)) (by rw [hcnt]; omega) (by rw [hcnt]; simp; omega);have hc := h2.cnt;rw [hcnt] at hc;have h1 : walkV bs (bs.length + 1) 0 (List.replicate bs.length false,[]) = some (met',new) := h1;rw [h1,Option.bind_some]
  simp only
  rw [F36_is new (by omega)];refine ⟨new.reverse,rfl,⟨by rw [List.length_reverse]; omega,List.pairwise_reverse.2 (h2.nd.imp fun h => h.symm),fun _ => by simpa using h3,fun v hv => ?_,fun u hu b hb to he => ?_,fun v hv => ?_⟩⟩
  · have := (h2.mem v).mp (by simpa using hv);have h5 := (List.getElem?_eq_some_iff.mp this.2.1).1;rw [List.length_replicate] at h5;exact ⟨this.1,by omega⟩
  · rw [List.mem_reverse,h2.mem];exact ⟨he.1,hget _ (by have := he.1; have := he.2.1; omega),h2.clo u (by simpa using hu) b hb to he⟩
  · rcases h4 v (by simpa using hv) with h | ⟨u,hu,b,hb,he⟩
    · exact .inl (by simpa using h)
    · exact .inr ⟨u,by simpa using hu,b,hb,he⟩
end Go.Eng.Gra
namespace Go.Eng.Gra
open Go Go.Eng
set_option linter.unusedSectionVars false
set_option linter.unusedVariables false
set_option linter.unusedSimpArgs false
set_option maxRecDepth 20000
structure RB where
  o : Option (Nat × Nat)
  w : V
  l : List T_Ins
  t : T_Term
def RB.ok (r : RB) : Prop := r.w = slv 6 true r.l.length r.o ∨ r.l = [] ∧ r.o = none ∧ r.w = .fz []
def RB.c (r : RB) : List V := r.w :: E_Term.c r.t
def RB.b (r : RB) : T_Block := ⟨r.l,r.t⟩
def RB.ob (r : RB) : Ob := (r.o,r.l.flatMap E_Ins.c ++ [])
def rbs (rows : List RB) : List V := rows.flatMap RB.c
def robs (rows : List RB) : List Ob := rows.map RB.ob
theorem RB.c_len (r : RB) : r.c.length = 6 := rfl
theorem rbs_len : ∀ rows : List RB,(rbs rows).length = rows.length * 6
  | [] => rfl
  | r :: rows => by
    have := rbs_len rows;unfold rbs at this ⊢;rw [List.flatMap_cons,List.length_append,this,r.c_len,List.length_cons]; omega
theorem RB.ok.cell {r : RB} (h : r.ok) : r.w.isCell = true := by
  rcases h with h | ⟨_,_,h⟩
  · rw [h]; cases r.o <;> rfl
  · rw [h]; rfl
theorem RB.ok.all {r : RB} (h : r.ok) : r.c.all V.isCell = true := by
  unfold RB.c;rw [List.all_cons,h.cell,E_Term.hc]; rfl
theorem rbs_at {rows : List RB} {i : Nat} {r : RB} (h : rows[i]? = some r) : (rbs rows)[i * 6]? = some r.w := by
  induction rows generalizing i with
  | nil => simp at h
  | cons x rows ih =>
    unfold rbs at ih ⊢;rw [List.flatMap_cons];cases i with
    | zero => simp at h; subst h; rfl
    | succ i =>
      rw [List.getElem?_append_right (by rw [x.c_len]; omega),x.c_len,show (i + 1) * 6 - 6 = i * 6 by omega];exact ih (by simpa using h)
theorem rbs_snoc (rows : List RB) (r : RB) : rbs (rows ++ [r]) = rbs rows ++ r.c := by simp [rbs]
theorem rbs_set {rows : List RB} {i : Nat} {r r' : RB} (h : rows[i]? = some r) (hc : r'.c = r.c) : rbs (rows.set i r') = rbs rows := by
  induction rows generalizing i with
  | nil => simp at h
  | cons x rows ih =>
    unfold rbs at ih ⊢;cases i with
    | zero => simp at h; subst h; simp [hc]
    | succ i => simp only [List.set_cons_succ,List.flatMap_cons]; rw [ih (by simpa using h)]
theorem robs_get {rows : List RB} {i : Nat} {r : RB} (h : rows[i]? = some r) : (robs rows)[i]? = some r.ob := by unfold robs; rw [List.getElem?_map,h]; rfl
theorem robs_set (rows : List RB) (i : Nat) (r : RB) : (robs rows).set i r.ob = robs (rows.set i r) := by unfold robs; rw [List.map_set]
theorem robs_len (rows : List RB) : (robs rows).length = rows.length := by simp [robs]
theorem raw_app {H : Heap} {L : List Ob} (hp : HP H L) (i : Nat) {o : Option (Nat × Nat)} {cs : List V} (hi : L[i]? = some (o,cs)) {n z by_ : Nat} {ag : Bool} (hl : cs.length = n * z) (hz : 0 < z) {x : V} {ns : List V} {m : Nat}
    (hx : newCells H x z = some (ns,m)) (hm : 0 < m) (hc : ns.all V.isCell = true) (hb : (n + m) * by_ ≤ 140737488355328) :
    ∃ o' H1,appV H (slv z ag n o) x z ag by_ = some (slv z ag (n + m) o',H1) ∧ HP H1 (L.set i (o',cs ++ ns)) := by
  cases o with
  | none =>
    have h0 : cs = [] := hp.at_ i _ _ hi;subst h0;have hn : n = 0 := by
      rw [List.length_nil] at hl;rcases Nat.eq_zero_or_pos n with h | h
      · exact h
      · have := Nat.mul_pos h hz; omega
    subst hn;refine ⟨some (H.length,0),H ++ [(0,ns)],?_,?_⟩
    · simp only [appV,hx,Option.bind_some,hc,slv,Bool.not_true,Bool.false_eq_true,if_false];rw [if_pos (by simpa using hb),if_neg (by omega),Nat.zero_add]
    · rw [List.nil_append];have hil := (List.getElem?_eq_some_iff.mp hi).1;have hn := hp.new ns;refine ⟨fun j o' cs hj => ?_,fun j j' b g g' cs cs' h1 h2 => ?_⟩
      · by_cases hij : i = j
        · subst hij; rw [List.getElem?_set_self hil] at hj; cases hj; exact hn.at_ 0 _ _ rfl
        · rw [List.getElem?_set_ne hij] at hj; exact hn.at_ (j + 1) _ _ (by simpa using hj)
      · have mv : ∀ k b g cs,(L.set i (some (H.length,0),ns))[k]? = some (some (b,g),cs) → ((some (H.length,0),ns) :: L)[if i = k then 0 else k + 1]? = some (some (b,g),cs) := by
          intro k b g cs hk
          by_cases hik : i = k
          · subst hik; rw [List.getElem?_set_self hil] at hk; rw [if_pos rfl]; simpa using hk
          · rw [List.getElem?_set_ne hik] at hk; rw [if_neg hik]; simpa using hk
        have := hn.ne _ _ _ _ _ _ _ (mv _ _ _ _ h1) (mv _ _ _ _ h2)
        by_cases a1 : i = j <;> by_cases a2 : i = j' <;> simp [a1,a2] at this <;> omega
  | some p =>
    obtain ⟨b,g⟩ := p;have hget := hp.get hi;refine ⟨some (b,g + 1),H.set b (g + 1,cs ++ ns),?_,hp.set hi _ _⟩;simp only [appV,hx,Option.bind_some,hc,slv,Bool.not_true,Bool.false_eq_true,if_false,rdB_of hget];rw [if_pos ⟨trivial,by omega,hb⟩,List.drop_zero,List.take_of_length_le (by omega)]
theorem bsl_rb {H : Heap} {r : RB} (h : r.ok) : bslV H 6 true 1 (.ag [.nils,.int .u8 0,.int .i64 0,.int .i64 0,.int .i64 0,.int .u8 0]) [(0,.ag r.c)] false = some (.sl H.length 0 0 1 6 true,H ++ [(0,r.c)]) := by
  have ha := h.all;have h6 := r.c_len;unfold bslV;simp only [okEl,V.cells,V.isAg,List.all_cons,List.all_nil,h6,ha]
  simp [setParts,V.cells]
theorem new_rb {H : Heap} {L : List Ob} (hp : HP H L) {i b : Nat} {r : RB} (hi : L[i]? = some (some (b,0),r.c)) : newCells H (.sl b 0 0 1 6 true) 6 = some (r.c,1) := by
  simp only [newCells,rdB_of (hp.get hi),Option.bind_some];rw [if_pos ⟨trivial,by rw [r.c_len]; omega⟩,List.drop_zero,List.take_of_length_le (by rw [r.c_len]; omega)]
theorem rows_rb : ∀ (l : List RB) (rest : List V),rows 6 l.length (rbs l ++ rest) = l.map RB.c
  | [],rest => rfl
  | a :: l,rest => by
    have ih := rows_rb l rest;unfold rbs at ih ⊢;rw [List.length_cons,rows,List.flatMap_cons,List.append_assoc,List.map_cons,List.take_append_of_le_length (by rw [a.c_len]; exact Nat.le_refl _),List.take_of_length_le (by rw [a.c_len]; exact Nat.le_refl _),List.drop_append,List.drop_of_length_le (by rw [a.c_len]; exact Nat.le_refl _),a.c_len,Nat.sub_self,List.drop_zero,List.nil_append,ih]
theorem omap_mapM {α β γ : Type} (f : α → β) (g : β → Option γ) (h : α → γ) : ∀ (l : List α),(∀ a ∈ l,g (f a) = some (h a)) → omap g (l.map f) = some (l.map h)
  | [],_ => rfl
  | a :: l,ha => by
    have ih := omap_mapM f g h l (fun b hb => ha b (by simp [hb]));simp only [List.map_cons,omap,ha a (by simp),ih]
theorem deep_rbs {H : Heap} {L : List Ob} (hp : HP H L) (i : Nat) {ob : Option (Nat × Nat)} {rows : List RB} (hi : L[i]? = some (ob,rbs rows ++ [])) (hr : ∀ r ∈ rows,r.ok ∧ ∃ j : Nat,L[j]? = some r.ob) (n : Nat) :
    deep false H (n + 8) (slv 6 true rows.length ob) = some ((EL E_Block).e (rows.map RB.b)) := by
  cases ob with
  | none =>
    have h0' := hp.at_ i _ _ hi;have hl : (rbs rows ++ []).length = 0 := by rw [show rbs rows ++ [] = [] from h0']; rfl
    rw [List.append_nil,rbs_len] at hl;have : rows = [] := List.eq_nil_of_length_eq_zero (by omega);subst this; rfl
  | some p =>
    obtain ⟨b,g⟩ := p;simp only [slv];rw [deep_sl,rdB_of (hp.get hi),Option.bind_some,if_pos ⟨by rw [List.append_nil,rbs_len]; omega,by decide,.inl rfl⟩,List.drop_zero,rows_rb];rw [omap_mapM RB.c _ (fun r => E_Block.e r.b) rows (fun r hrr => ?_)]
    · show some (V.fz _) = some (V.fz _);rw [List.map_map]; rfl
    · obtain ⟨hok,j,hj⟩ := hr r hrr;show (omap (deep false H (n + 7)) r.c).map V.ag = _;have hw : deep false H (n + 7) r.w = some ((EL E_Ins).e r.l) := by
        rcases hok with h | ⟨h1,_,h⟩
        · rw [h]; exact own_deep E_Ins hp j hj false (.inl rfl) (n + 3)
        · rw [h,h1]; rfl
      have : omap (deep false H (n + 7)) r.c = some ((EL E_Ins).e r.l :: E_Term.c r.t) := omapc hw rfl;rw [this]; rfl
end Go.Eng.Gra
namespace Go.Eng.Gra
open Go Go.Eng
set_option linter.unusedSectionVars false
set_option linter.unusedVariables false
set_option linter.unusedSimpArgs false
set_option maxRecDepth 20000
section
variable {T : Nat → Option IFun} {F : FT} {H0 H h : Heap} {env : List V}
theorem Run.rgd {ls : List Nat} {ops : List IOp} {tr : List (List V × Heap)} {e' : List V} {H' : Heap} {Q : X → List V → Heap → Prop} (k : Nat) (h1 : exOps0 (exF T k) H ops env H = some tr) (h2 : stays (exF T k) H (tr.map (·.2)) ls ops tr = true) (h3 : tr.getLast? = some (e',H')) (hq : Q .nrm e' H') : Run T (.rgd ls ops) env H Q := by
  refine ⟨k + 1,.nrm,e',H',?_,hq⟩;have a := exOps0_mono (exF_mono (T := T) k (Nat.le_succ k)) h1;have b := stays_mono (exF_mono (T := T) k (Nat.le_succ k)) h2;simp only [exec,a,b,if_true,h3,Option.map_some]
theorem xq {d : Option Nat} {k : Kind} {v : V} (hq : k.quiet = true) (hv : evq F env H k = some v) : exOp0 F H0 ⟨d,none,false,k⟩ env H = some (put env d v,H) := by
  simp only [exOp0,exOp,exK,hq,if_true,Bool.false_eq_true,if_false,hv]; rfl
theorem xl {d : Option Nat} {k : Kind} {v : V} (hq : k.quiet = true) (hv : evq F env H0 k = some v) : exOp0 F H0 ⟨d,none,true,k⟩ env H = some (put env d v,H) := by
  simp only [exOp0,exOp,exK,hq,if_true,Bool.false_eq_true,if_false,hv]; rfl
theorem xw {d : Option Nat} {k : Kind} {v : V} {H' : Heap} (hq : k.quiet = false) (hv : evw F env H k = some (v,H')) : exOp0 F H0 ⟨d,none,false,k⟩ env H = some (put env d v,H') := by
  simp only [exOp0,exOp,exK,hq,if_true,Bool.false_eq_true,if_false,hv]; rfl
theorem xc {o : IOp} {r : List IOp} {e1 : List V} {H1 : Heap} {tr : List (List V × Heap)} (h1 : exOp0 F H0 o env H = some (e1,H1)) (h2 : exOps0 F H0 r e1 H1 = some tr) : exOps0 F H0 (o :: r) env H = some ((env,H) :: tr) := by
  simp only [exOps0,h1,h2]
theorem stay_ld {d : Option Nat} {x : Opd} {n : Sh} {p v : V} (hx : x.ev env = p) (h0 : ldV H0 p n = some v) (h1 : ldV h p n = some v) (he : V.eqb deepN v v = true) : stayOp F H0 ⟨d,none,true,.ld x n⟩ env h = true := by
  simp only [stayOp,gdR,evq,hx,h0,h1,he]; rfl
end
def trTo (pl : List Int) (t : T_Term) (k : Nat) (to : Int) : Option Int :=
  if (goV t k && decide (0 ≤ to ∧ to < (pl.length : Int))) = true then (idx pl to).map fun x => Go.Eng.w64 (x - 1) else some to
def setTo (t : T_Term) (k : Nat) (v : Int) : T_Term := if k = 0 then { t with fTo := ⟨v,t.fTo.a1⟩ } else { t with fTo := ⟨t.fTo.a0,v⟩ }
def getTo (t : T_Term) (k : Nat) : Int := if k = 0 then t.fTo.a0 else t.fTo.a1
abbrev cl25 : List Nat := [13,14,15,72,73,74,75,76,77,78,79,80,81,82,83,84,85,86,87,88,89,90,91,92,93,94,95,96,97,98,99,100]
def e25L (b2 b5 b8 b11 b12 : Nat) (G vo vw vl vi : V) (pl : List Int) (to2 : T_2int) (k : Nat) : List V := (mkE [(1,.fp G),(0,.ptr b2 0 0),(0,vo),(0,vw),(0,slv 1 false pl.length (some (b5,0))),(2,.ptr b8 0 0),(2,.ptr b11 0 0),(0,.ptr b12 0 0),(42,vo),(0,vl),(0,vi),(11,.ag [.int .i64 to2.a0,.int .i64 to2.a1]),(0,.int .i64 (k : Int))] 93)
def e25M (b2 b5 b8 b11 b12 : Nat) (G vo vw vl vi : V) (pl : List Int) (to2 : T_2int) (k : Nat) (to : Int) : List V := (mkE [(1,.fp G),(0,.ptr b2 0 0),(0,vo),(0,vw),(0,slv 1 false pl.length (some (b5,0))),(2,.ptr b8 0 0),(2,.ptr b11 0 0),(0,.ptr b12 0 0),(0,.int .i64 (k : Int)),(0,.int .i64 to),(40,vo),(0,vl),(0,vi),(11,.ag [.int .i64 to2.a0,.int .i64 to2.a1]),(0,.int .i64 (k : Int))] 93)
def e25N (b2 b5 b8 b11 b12 : Nat) (G vo vw vl vi : V) (pl : List Int) (to2 : T_2int) (k : Nat) (to : Int) (g : Bool) : List V := (mkE [(1,.fp G),(0,.ptr b2 0 0),(0,vo),(0,vw),(0,slv 1 false pl.length (some (b5,0))),(2,.ptr b8 0 0),(2,.ptr b11 0 0),(0,.ptr b12 0 0),(0,.int .i64 (k : Int)),(0,.int .i64 to),(0,.bool g),(39,vo),(0,vl),(0,vi),(11,.ag [.int .i64 to2.a0,.int .i64 to2.a1]),(0,.int .i64 (k : Int))] 93)
def e25P (b2 b5 b8 b11 b12 : Nat) (G vo vw vl vi : V) (pl : List Int) (to2 : T_2int) (k : Nat) (to : Int) (g : Bool) : List V := (mkE [(1,.fp G),(0,.ptr b2 0 0),(0,vo),(0,vw),(0,slv 1 false pl.length (some (b5,0))),(2,.ptr b8 0 0),(2,.ptr b11 0 0),(0,.ptr b12 0 0),(0,.int .i64 (k : Int)),(0,.int .i64 to),(40,vo),(0,vl),(0,vi),(11,.ag [.int .i64 to2.a0,.int .i64 to2.a1]),(0,.int .i64 (k : Int)),(21,.bool g)] 71)
section
variable {b2 b5 b8 b11 b12 : Nat} {G vo vw vl vi : V} {pl : List Int} {to2 : T_2int} {H : Heap} {L : List Ob}
theorem goes25 {t : T_Term} (hp : HP H ((some (b12,0),E_Term.c t) :: L)) (k : Nat) (hk : k = 0 ∨ k = 1) (to : Int) (Q : X → List V → Heap → Prop)
    (h : Run T i25n32 (e25N b2 b5 b8 b11 b12 G vo vw vl vi pl to2 k to (goV t k)) H Q) : Run T i25n33 (e25M b2 b5 b8 b11 b12 G vo vw vl vi pl to2 k to) H Q := by
  have hld := hp.ld 0 (off := 0) (n := none) (v := .int .u8 t.fKind) rfl rfl;refine Rn.g ?_;refine Ro.t 1 ?_;refine Ro.p hld ?_;cases h2 : (t.fKind == 2)
  · refine Ro.p (bool_of h2) ?_;refine Ro.t 2 ?_;refine Ro.p hld ?_;cases h1 : (t.fKind == 1)
    · have hg : goV t k = false := by unfold goV; rw [h2,h1]; rfl
      rw [hg] at h;refine Ro.p (bool_of h1) ?_;refine Ro.t 6 ?_;exact Ro.d (e25N b2 b5 b8 b11 b12 G vo vw vl vi pl to2 k to false) h
    · refine Ro.p (bool_of h1) ?_;rcases hk with rfl | rfl
      · have hg : goV t 0 = true := by unfold goV; rw [h2,h1]; rfl
        rw [hg] at h;refine Ro.t 6 ?_;exact Ro.d (e25N b2 b5 b8 b11 b12 G vo vw vl vi pl to2 0 to true) h
      · have hg : goV t 1 = false := by unfold goV; rw [h2,h1]; rfl
        rw [hg] at h;refine Ro.t 6 ?_;exact Ro.d (e25N b2 b5 b8 b11 b12 G vo vw vl vi pl to2 1 to false) h
  · have hg : goV t k = true := by unfold goV; rw [h2]; rfl
    rw [hg] at h;refine Ro.p (bool_of h2) ?_;refine Ro.t 10 ?_;exact Ro.d (e25N b2 b5 b8 b11 b12 G vo vw vl vi pl to2 k to true) h
theorem goV_set (t : T_Term) (k j : Nat) (v : Int) : goV (setTo t j v) k = goV t k := by unfold goV setTo; split <;> rfl
theorem set_get (t : T_Term) (k : Nat) (hk : k = 0 ∨ k = 1) : setTo t k (getTo t k) = t := by
  rcases hk with rfl | rfl <;> rfl
theorem round25 {t : T_Term} (hp : HP H ((some (b12,0),E_Term.c t) :: L)) {i : Nat} (hi : L[i]? = some (some (b5,0),pl.flatMap (EI .i64).c ++ [])) (k : Nat) (hk : k = 0 ∨ k = 1) {to' : Int} (h : trTo pl t k (getTo t k) = some to') :
    Run T i25n33 (e25M b2 b5 b8 b11 b12 G vo vw vl vi pl to2 k (getTo t k)) H (fun x e h => x = .nrm ∧ clrEnv cl25 e = e25L b2 b5 b8 b11 b12 G vo vw vl vi pl to2 k ∧ HP h ((some (b12,0),E_Term.c (setTo t k to')) :: L)) := by
  refine goes25 hp k hk _ _ ?_;obtain ⟨to,hto⟩ : ∃ to,getTo t k = to := ⟨_,rfl⟩;rw [hto] at h ⊢;unfold trTo at h;refine Rn.g ?_;cases hg : goV t k
  · rw [hg] at h;simp only [Bool.false_and,Bool.false_eq_true,if_false] at h;have h := Option.some.inj h; subst to';refine Ro.t 7 ?_;refine Ro.d (e25P b2 b5 b8 b11 b12 G vo vw vl vi pl to2 k to false) ?_;refine Run.condF (by kernel_rfl) ?_;exact Run.skip ⟨rfl,by kernel_rfl,by rw [← hto,set_get t k hk]; exact hp⟩
  rw [hg] at h;have hi1 : ((some (b12,0),E_Term.c t) :: L)[i + 1]? = some (some (b5,0),pl.flatMap (EI .i64).c ++ []) := by simpa using hi
  refine Ro.t 4 ?_;refine Ro.p (own_len (EI .i64) hp (i + 1) hi1) ?_;cases hb : decide (0 ≤ to ∧ to < (pl.length : Int))
  · rw [hb] at h;simp only [Bool.and_false,Bool.false_eq_true,if_false] at h;have h := Option.some.inj h; subst to';refine RunO.c1 (by kernel_rfl) (by kernel_rfl) (c34 (x0 := to) (x1 := (pl.length : Int)) (r := false) (by rw [in34,hb]) _) ?_;refine Ro.t 1 ?_;refine Ro.d (e25P b2 b5 b8 b11 b12 G vo vw vl vi pl to2 k to false) ?_;refine Run.condF (by kernel_rfl) ?_;exact Run.skip ⟨rfl,by kernel_rfl,by rw [← hto,set_get t k hk]; exact hp⟩
  rw [hb] at h;simp only [Bool.and_true,if_true,Option.map_eq_some_iff] at h;obtain ⟨y,hy,rfl⟩ := h;refine RunO.c1 (by kernel_rfl) (by kernel_rfl) (c34 (x0 := to) (x1 := (pl.length : Int)) (r := true) (by rw [in34,hb]) _) ?_;refine Ro.t 1 ?_;refine Ro.d (e25P b2 b5 b8 b11 b12 G vo vw vl vi pl to2 k to true) ?_;refine Run.condT (by kernel_rfl) ?_;refine Run.rgn ?_;refine Ro.t 3 ?_;obtain ⟨b,g,hom,hia⟩ := own_idx (EI .i64) hp (i + 1) hi1 hy;cases hom;refine Ro.p (hia .i64) ?_;refine Ro.p (own_ld (EI .i64) hp (i + 1) hi1 hy (off := 0) (n := none) (v := .int .i64 y) rfl) ?_;rcases hk with rfl | rfl
  · refine Ro.t 3 ?_;refine RunO.st hp (by kernel_rfl) 0 (off := 2) (v := .int .i64 (Go.Eng.w64 (y - 1))) (cs' := E_Term.c (setTo t 0 (Go.Eng.w64 (y - 1)))) rfl (by kernel_rfl) (by kernel_rfl) (by kernel_rfl) ?_;intro H hp;exact RunO.nil ⟨rfl,by kernel_rfl,hp⟩
  · refine Ro.t 3 ?_;refine RunO.st hp (by kernel_rfl) 0 (off := 3) (v := .int .i64 (Go.Eng.w64 (y - 1))) (cs' := E_Term.c (setTo t 1 (Go.Eng.w64 (y - 1)))) rfl (by kernel_rfl) (by kernel_rfl) (by kernel_rfl) ?_;intro H hp;exact RunO.nil ⟨rfl,by kernel_rfl,hp⟩
end
abbrev OC (x0 : T_Graph) (w : V) : List V := [ES.e x0.fName,.fz (x0.fParams.map (EI .i64).e),.int .u8 x0.fResult,.fz (x0.fVars.map (EI .u8).e),.fz (x0.fArrays.map E_Array.e),w]
theorem slv_cell (z : Nat) (ag : Bool) (n : Nat) (o : Option (Nat × Nat)) : (slv z ag n o).isCell = true := by cases o <;> rfl
theorem slv_eqb (z : Nat) (ag : Bool) (n : Nat) (o : Option (Nat × Nat)) : V.eqb deepN (slv z ag n o) (slv z ag n o) = true := by
  cases o with
  | none => rfl
  | some p => obtain ⟨b,g⟩ := p; simp [slv,V.eqb,deepN]
theorem cl46 : Cl T 46 := ⟨40,by kernel_rfl⟩
theorem st_box {H : Heap} {L : List Ob} (hp : HP H L) (i : Nat) {b8 : Nat} {x0 : T_Graph} {w w' : V} (hi : L[i]? = some (some (b8,0),OC x0 w)) (hw : w'.isCell = true) : ∃ H',stV H (.ptr b8 0 5) w' none = some H' ∧ HP H' (L.set i (some (b8,0),OC x0 w')) := by
  have hva : w'.cells = [w'] := by cases w' <;> simp_all [V.isCell,V.cells]
  have hs : stC (OC x0 w) 5 w' none = some (OC x0 w') := by
    unfold stC;rw [if_pos (by simp [fitsSh,hw,hva])]; rfl
  exact ⟨_,hp.st i hi hs,hp.set hi _ _⟩
theorem clone46 {H : Heap} {L : List Ob} (hp : HP H L) {env : List V} {l : List T_Ins} (hx : (Opd.t 105).ev env = .fz (l.map E_Ins.e)) (hb : l.length * 56 ≤ 140737488355328) :
    ∃ k w H1 o,evw (exF T k) env H (.cln true (.c (.fn 46 [])) (.t 105)) = some (w,H1) ∧ (w = slv 6 true l.length o ∨ l = [] ∧ o = none ∧ w = .fz []) ∧ HP H1 ((o,l.flatMap E_Ins.c ++ []) :: L) := by
  have e0 : (Opd.c (.fn 46 [])).ev env = .fn 46 [] := rfl;cases l with
  | nil =>
    obtain ⟨k,hk⟩ := cl46;refine ⟨k,.fz [],H,none,?_,.inr ⟨rfl,rfl,rfl⟩,hp.non⟩;have hE : isE (V.fz (([] : List T_Ins).map E_Ins.e)) = true := rfl;simp only [evw,e0,hx,hE,if_true,hk,Option.map_some]
  | cons a l =>
    obtain ⟨k,v,Hc,hk,b,g,rfl,hp'⟩ := clone_w (T := T) E_Ins (n := 46) (by_ := 56) (zero := .ag [(.int .u8 0),(.int .u8 0),(.int .i64 0),.nils,(.int .u64 0),(.int .i64 0)]) t46 rfl (l := a :: l) (by simp) hb (HP.nil (H := []));refine ⟨k,.sl H.length 0 0 (a :: l).length 6 true,H ++ [(0,(a :: l).flatMap E_Ins.c ++ [])],some (H.length,0),?_,.inl rfl,hp.new _⟩;have hE : isE (V.fz ((a :: l).map E_Ins.e)) = false := rfl;have hf : V.free deepN (V.fz ((a :: l).map E_Ins.e)) = true := rfl;have hfl : ((a :: l).flatMap E_Ins.c ++ []).all (V.free deepN) = true := by
      rw [List.append_nil,List.all_eq_true];intro y hy;obtain ⟨q,_,hq⟩ := List.mem_flatMap.mp hy;exact List.all_eq_true.mp (show (E_Ins.c q).all (V.free deepN) = true from rfl) y hq
    have hr := rdB_of (hp'.get (i := 0) rfl);simp only [evw,e0,hx,hE,Bool.false_eq_true,if_false,cln1,hf,if_true,hk,Option.bind_some,slv,hr,hfl]; rfl
theorem stays43 {F : FT} {H H1 H2 H3 H4 : Heap} {e0 e1 e2 e3 e4 e5 e6 e7 e8 e9 e10 : List V} (y1 : stayOp F H ⟨some 103,none,true,.ld (.t 102) none⟩ e1 H = true) (y2 : stayOp F H ⟨some 103,none,true,.ld (.t 102) none⟩ e1 H1 = true) (y3 : stayOp F H ⟨some 103,none,true,.ld (.t 102) none⟩ e1 H2 = true)
    (y4 : stayOp F H ⟨some 107,none,true,.ld (.t 12) (some 5)⟩ e5 H = true) (y5 : stayOp F H ⟨some 107,none,true,.ld (.t 12) (some 5)⟩ e5 H1 = true) :
    stays F H [H,H,H,H,H,H1,H1,H1,H2,H3,H3,H4] [11,8,11,11,11,7,11,11,11,11,11] i25r43 [(e0,H),(e1,H),(e2,H),(e3,H),(e4,H),(e5,H1),(e6,H1),(e7,H1),(e8,H2),(e9,H3),(e10,H3),(e10,H4)] = true := by
  simp only [i25r43,stays,List.take_succ_cons,List.take_zero,List.take_nil,List.all_cons,List.all_nil,y1,y2,y3,y4,y5,Bool.not_false,Bool.not_true,Bool.true_or,Bool.false_or,Bool.and_true,Bool.true_and]
theorem run43 {F : FT} {H H1 H2 H3 H4 : Heap} {e0 e1 e2 e3 e4 e5 e6 e7 e8 e9 e10 : List V}
    (s0 : exOp0 F H ⟨some 102,none,false,.flda (.t 8) 5 none⟩ e0 H = some (e1,H)) (s1 : exOp0 F H ⟨some 103,none,true,.ld (.t 102) none⟩ e1 H = some (e2,H))
    (s2 : exOp0 F H ⟨some 104,none,false,.flda (.t 11) 0 none⟩ e2 H = some (e3,H)) (s3 : exOp0 F H ⟨some 105,none,false,.ld (.t 104) none⟩ e3 H = some (e4,H))
    (s4 : exOp0 F H ⟨some 106,none,false,.cln true (.c (.fn 46 [])) (.t 105)⟩ e4 H = some (e5,H1)) (s5 : exOp0 F H ⟨some 107,none,true,.ld (.t 12) (some 5)⟩ e5 H1 = some (e6,H1))
    (s6 : exOp0 F H ⟨some 108,none,false,.bld [.nils,(.int .u8 0),(.int .i64 0),(.int .i64 0),(.int .i64 0),(.int .u8 0)] [(0,1,(.t 106)),(1,5,(.t 107))]⟩ e6 H1 = some (e7,H1))
    (s7 : exOp0 F H ⟨some 109,none,false,.bsl 6 true 1 (.ag [.nils,(.int .u8 0),(.int .i64 0),(.int .i64 0),(.int .i64 0),(.int .u8 0)]) [(0,(.t 108))] false⟩ e7 H1 = some (e8,H2))
    (s8 : exOp0 F H ⟨some 110,none,false,.app (.t 103) (.t 109) 6 true 64⟩ e8 H2 = some (e9,H3)) (s9 : exOp0 F H ⟨some 111,none,false,.flda (.t 8) 5 none⟩ e9 H3 = some (e10,H3))
    (s10 : exOp0 F H ⟨none,none,false,.st (.t 111) (.t 110) none⟩ e10 H3 = some (e10,H4)) :
    exOps0 F H i25r43 e0 H = some [(e0,H),(e1,H),(e2,H),(e3,H),(e4,H),(e5,H1),(e6,H1),(e7,H1),(e8,H2),(e9,H3),(e10,H3),(e10,H4)] := by
  unfold i25r43;exact xc s0 (xc s1 (xc s2 (xc s3 (xc s4 (xc s5 (xc s6 (xc s7 (xc s8 (xc s9 (xc s10 rfl))))))))))
abbrev cl43 : List Nat := [10,11,12,13,14,15,59,60,61,62,63,64,65,66,67,68,69,70,71,72,73,74,75,76,77,78,79,80,81,82,83,84,85,86,87,88,89,90,91,92,93,94,95,96,97,98,99,100,101,102,103,104,105,106,107,108,109,110,111]
def e25K (b2 b5 b8 b11 b12 : Nat) (G vo vw vl vi : V) (pl : List Int) : List V := (mkE [(1,.fp G),(0,.ptr b2 0 0),(0,vo),(0,vw),(0,slv 1 false pl.length (some (b5,0))),(2,.ptr b8 0 0),(2,.ptr b11 0 0),(0,.ptr b12 0 0),(42,vo),(0,vl),(0,vi)] 106)
def e25J (b2 b5 b8 : Nat) (G vo vw vl vi : V) (pl : List Int) : List V := (mkE [(1,.fp G),(0,.ptr b2 0 0),(0,vo),(0,vw),(0,slv 1 false pl.length (some (b5,0))),(2,.ptr b8 0 0),(46,vo),(0,vl),(0,vi)] 106)
def e43E (b2 b5 b8 b11 b12 : Nat) (G vo vw vl vi : V) (pl : List Int) (v3 v5 w v7 v8 v9 v10 : V) : List V :=
  put (put (put (put (put (put (put (put (put (put (e25K b2 b5 b8 b11 b12 G vo vw vl vi pl) (some 102) (.ptr b8 0 5)) (some 103) v3) (some 104) (.ptr b11 0 0)) (some 105) v5) (some 106) w) (some 107) v7) (some 108) v8) (some 109) v9) (some 110) v10) (some 111) (.ptr b8 0 5)
set_option maxHeartbeats 1600000 in
theorem row43 {b2 b5 b8 b11 b12 : Nat} {G vo vw vl vi : V} {pl : List Int} {x0 : T_Graph} {b : T_Block} {t : T_Term} {rows : List RB} {ob : Option (Nat × Nat)} {H : Heap} {L : List Ob}
    (hp : HP H ((some (b12,0),E_Term.c t) :: (some (b11,0),E_Block.c b) :: (some (b8,0),OC x0 (slv 6 true rows.length ob)) :: (ob,rbs rows ++ []) :: L)) (hb : b.fIns.length * 56 ≤ 140737488355328) (hn : (rows.length + 1) * 64 ≤ 140737488355328)
    (Q : X → List V → Heap → Prop)
    (hq : ∀ (r : RB) (ob' : Option (Nat × Nat)) (H' : Heap) (e' : List V),r.ok → r.l = b.fIns → r.t = t → clrEnv cl43 e' = e25J b2 b5 b8 G vo vw vl vi pl →
      HP H' ((some (b8,0),OC x0 (slv 6 true (rows ++ [r]).length ob')) :: (ob',rbs (rows ++ [r]) ++ []) :: r.ob :: L) → Q .nrm e' H') :
    Run T (.rgd [11,8,11,11,11,7,11,11,11,11,11] i25r43) (e25K b2 b5 b8 b11 b12 G vo vw vl vi pl) H Q := by
  generalize hv3 : slv 6 true rows.length ob = v3 at hp
  let e0 := e25K b2 b5 b8 b11 b12 G vo vw vl vi pl
  let e1 := put e0 (some 102) (.ptr b8 0 5)
  let e2 := put e1 (some 103) v3
  let e3 := put e2 (some 104) (.ptr b11 0 0)
  let e4 := put e3 (some 105) ((EL E_Ins).e b.fIns)
  obtain ⟨k,w,H1,o,hcl,hw,hp1⟩ := clone46 hp (env := e4) (l := b.fIns) (by kernel_rfl) hb
  let r : RB := ⟨o,w,b.fIns,t⟩
  have hrok : r.ok := hw
  let e5 := put e4 (some 106) w
  let e6 := put e5 (some 107) (.ag (E_Term.c t))
  let e7 := put e6 (some 108) (.ag r.c)
  let e8 := put e7 (some 109) (.sl H1.length 0 0 1 6 true)
  let H2 := H1 ++ [(0,r.c)]
  have hp2 : HP H2 ((some (H1.length,0),r.c) :: (o,b.fIns.flatMap E_Ins.c ++ []) :: (some (b12,0),E_Term.c t) :: (some (b11,0),E_Block.c b) :: (some (b8,0),OC x0 v3) :: (ob,rbs rows ++ []) :: L) := hp1.new _;obtain ⟨ob',H3,happ,hp3⟩ := raw_app hp2 5 (o := ob) (cs := rbs rows ++ []) rfl (n := rows.length) (z := 6) (by_ := 64) (ag := true) (by rw [List.append_nil,rbs_len]) (by decide) (new_rb hp2 (i := 0) rfl) (by decide) hrok.all hn
  let v10 := slv 6 true (rows.length + 1) ob'
  let e9 := put e8 (some 110) v10
  let e10 := put e9 (some 111) (.ptr b8 0 5)
  obtain ⟨H4,hst,hp4⟩ := st_box hp3 4 (b8 := b8) (x0 := x0) (w := v3) rfl (w' := v10) (slv_cell _ _ _ _);have q1 : ldV H (.ptr b8 0 5) none = some v3 := hp.ld 2 rfl rfl;have q1' : ldV H1 (.ptr b8 0 5) none = some v3 := hp1.ld 3 rfl rfl;have q1'' : ldV H2 (.ptr b8 0 5) none = some v3 := hp2.ld 4 rfl rfl;have q3 : ldV H (.ptr b11 0 0) none = some ((EL E_Ins).e b.fIns) := hp.ld 1 rfl rfl;have q5 : ldV H (.ptr b12 0 0) (some 5) = some (.ag (E_Term.c t)) := hp.ld 0 rfl rfl;have q5' : ldV H1 (.ptr b12 0 0) (some 5) = some (.ag (E_Term.c t)) := hp1.ld 1 rfl rfl;have a1 : (Opd.t 102).ev e1 = .ptr b8 0 5 := by kernel_rfl
  have a3 : (Opd.t 104).ev e3 = .ptr b11 0 0 := by kernel_rfl
  have a5 : (Opd.t 12).ev e5 = .ptr b12 0 0 := by kernel_rfl
  have a8 : (Opd.t 103).ev e8 = v3 := by kernel_rfl
  have a8' : (Opd.t 109).ev e8 = .sl H1.length 0 0 1 6 true := by kernel_rfl
  have a10 : (Opd.t 111).ev e10 = .ptr b8 0 5 := by kernel_rfl
  have a10' : (Opd.t 110).ev e10 = v10 := by kernel_rfl
  have h6 : evq (exF T k) e6 H1 (.bld [.nils,(.int .u8 0),(.int .i64 0),(.int .i64 0),(.int .i64 0),(.int .u8 0)] [(0,1,(.t 106)),(1,5,(.t 107))]) = some (.ag r.c) := by
    have b1 : (Opd.t 106).ev e6 = w := by kernel_rfl
    have b2 : (Opd.t 107).ev e6 = .ag (E_Term.c t) := by kernel_rfl
    simp only [evq,List.map_cons,List.map_nil,b1,b2];have hwc : w.cells = [w] := by have := hrok.cell; revert this; show w.isCell = true → _; cases w <;> simp [V.isCell,V.cells]
    have hwi : w.isCell = true := hrok.cell;have ht := E_Term.hc t;simp only [bldV,hwc,List.length_singleton,List.all_cons,List.all_nil,hwi,Bool.and_true,List.length_cons,List.length_nil];rw [if_pos ⟨trivial,trivial,by omega⟩,if_pos ⟨rfl,ht,by simp [splice]⟩]
    rfl
  have h7 : evw (exF T k) e7 H1 (.bsl 6 true 1 (.ag [.nils,(.int .u8 0),(.int .i64 0),(.int .i64 0),(.int .i64 0),(.int .u8 0)]) [(0,(.t 108))] false) = some (.sl H1.length 0 0 1 6 true,H2) := by
    have b1 : (Opd.t 108).ev e7 = .ag r.c := by kernel_rfl
    simp only [evw,List.map_cons,List.map_nil,b1];exact bsl_rb hrok
  have h8 : evw (exF T k) e8 H2 (.app (.t 103) (.t 109) 6 true 64) = some (v10,H3) := by
    simp only [evw,a8,a8',← hv3]; exact happ
  have h10 : evw (exF T k) e10 H3 (.st (.t 111) (.t 110) none) = some (.sk,H4) := by
    simp only [evw,a10,a10',hst]; rfl
  have s3 : V.eqb deepN v3 v3 = true := by rw [← hv3]; exact slv_eqb _ _ _ _
  have s5 : V.eqb deepN (.ag (E_Term.c t)) (.ag (E_Term.c t)) = true := by simp [V.eqb,deepN,eqb2,E_Term,EI]
  have z0 : exOp0 (exF T k) H ⟨some 102,none,false,.flda (.t 8) 5 none⟩ e0 H = some (e1,H) := xq (v := .ptr b8 0 5) rfl (by kernel_rfl);have z1 : exOp0 (exF T k) H ⟨some 103,none,true,.ld (.t 102) none⟩ e1 H = some (e2,H) := xl (v := v3) rfl (by show ldV H ((Opd.t 102).ev e1) none = _; rw [a1]; exact q1);have z2 : exOp0 (exF T k) H ⟨some 104,none,false,.flda (.t 11) 0 none⟩ e2 H = some (e3,H) := xq (v := .ptr b11 0 0) rfl (by kernel_rfl);have z3 : exOp0 (exF T k) H ⟨some 105,none,false,.ld (.t 104) none⟩ e3 H = some (e4,H) := xq (v := (EL E_Ins).e b.fIns) rfl (by show ldV H ((Opd.t 104).ev e3) none = _; rw [a3]; exact q3);have z4 : exOp0 (exF T k) H ⟨some 106,none,false,.cln true (.c (.fn 46 [])) (.t 105)⟩ e4 H = some (e5,H1) := xw (v := w) (H' := H1) rfl hcl;have z5 : exOp0 (exF T k) H ⟨some 107,none,true,.ld (.t 12) (some 5)⟩ e5 H1 = some (e6,H1) := xl (v := .ag (E_Term.c t)) rfl (by show ldV H ((Opd.t 12).ev e5) (some 5) = _; rw [a5]; exact q5);have z9 : exOp0 (exF T k) H ⟨some 111,none,false,.flda (.t 8) 5 none⟩ e9 H3 = some (e10,H3) := xq (v := .ptr b8 0 5) rfl (by kernel_rfl);have run := run43 z0 z1 z2 z3 z4 z5 (xq (v := .ag r.c) rfl h6) (xw (v := .sl H1.length 0 0 1 6 true) (H' := H2) rfl h7) (xw (v := v10) (H' := H3) rfl h8) z9 (xw (v := .sk) (H' := H4) rfl h10);have y1 : stayOp (exF T k) H ⟨some 103,none,true,.ld (.t 102) none⟩ e1 H = true := stay_ld a1 q1 q1 s3;have y2 : stayOp (exF T k) H ⟨some 103,none,true,.ld (.t 102) none⟩ e1 H1 = true := stay_ld a1 q1 q1' s3;have y3 : stayOp (exF T k) H ⟨some 103,none,true,.ld (.t 102) none⟩ e1 H2 = true := stay_ld a1 q1 q1'' s3;have y4 : stayOp (exF T k) H ⟨some 107,none,true,.ld (.t 12) (some 5)⟩ e5 H = true := stay_ld a5 q5 q5 s5;have y5 : stayOp (exF T k) H ⟨some 107,none,true,.ld (.t 12) (some 5)⟩ e5 H1 = true := stay_ld a5 q5 q5' s5;refine Run.rgd k run (stays43 y1 y2 y3 y4 y5) rfl ?_;have hp5 := (((hp4.del 0).del 1).del 1).pick 2 rfl;have hp6 := hp5.pick 2 rfl;refine hq r ob' H4 e10 hrok rfl rfl (by kernel_rfl) ?_;have el : (rows ++ [r]).length = rows.length + 1 := by simp
  have ec : rbs (rows ++ [r]) ++ [] = rbs rows ++ [] ++ r.c := by rw [rbs_snoc]; simp
  rw [el,ec];exact hp6
end Go.Eng.Gra
